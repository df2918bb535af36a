/-
  bytes.Repeat of one byte: 1, 2, 3, 4 times.
-/
import Derived.Test.YthcmdjaccjghjaaOwn
import Derived.Test.YthcmdjaccjghjaaMonoJ
import Derived.Test.YthcmdjaccjghjaaBits1
import Derived.Test.YthcmdjaccjghjaaArr16
import Derived.Deep.Cut
import Derived.BigRegion
import Derived.RegionTactic
import Derived.Outline
import Derived.Deep.RegionLaw
import Derived.Lib.MakeNoZero
import Derived.Laws.Externs
import Derived.Laws.CopyOwn
namespace Go.Proofs.Ythcmdjaccjghjaa
open Go Go.RowKit
set_option linter.unusedSimpArgs false
set_option linter.unusedVariables false


theorem step_copy_grown {P : Program} {ops : Array Oper} {o : Oper} {a : Act} {w : World} {K : Act → World → Prop} {Q : Exit → Act → World → Prop} {E : Prop} (hgd : o.guard = none) (d s : Operand) (dT sT : TypeId)
    (ho : o.op = .call { callee := .builtin .copy, args := #[d, s], argTypes := #[dT, sT] }) (elem : TypeId) (hu : P.underlying dT = some (.slice elem)) (hsz : (P.info? elem).map (·.size) = some 1)
    (dp sp : Option Addr) (dLen dCap sLen sCap : Nat) (hd : a.eval d = .slice dp dLen dCap) (hs : a.eval s = .slice sp sLen sCap)
    (g off : Nat) (cur : List Value) (t : TypeId) (hg : Blk w g t cur.toArray) (cs : List Value) (hn : cs.length = Nat.min sLen dLen)
    (hpos : 0 < cs.length → dp = some ⟨g, off, none⟩ ∧ ∃ ad, sp = some ad ∧ ∀ j v, cs[j]? = some v → w.cell? (ad.add j) = some v)
    (hfit : off + cs.length ≤ cur.length) (h1 : ∀ v ∈ cs, v.oneCell' = true)
    (h : ∀ w', Hid (Blk w' g t (splice cur off cs).toArray) → Hid (w.grownBy w' (some g)) → K (a.put o.dst (goInt cs.length)) w') :
    if Region.wanted o (yielded ops a.tmps) = true then Oper.wp P o a w K Q else E := by
  have hw : Region.wanted o (yielded ops a.tmps) = true := by simp [Region.wanted, hgd]
  rw [if_pos hw]
  by_cases h0 : cs.length = 0
  · obtain rfl : cs = [] := List.eq_nil_of_length_eq_zero h0
    have hrun := run_copy_none (P := P) w dT sT o.type elem dp sp dLen dCap sLen sCap hu hsz (by simpa using hn.symm)
    unfold Oper.wp
    simp [execOp, ho, resolve, invoke, builtin, hd, hs, hrun, Result.andThen]
    exact h w (by unfold Hid Blk at *; simpa [splice] using hg) (World.grownBy.refl w _)
  · obtain ⟨rfl, ad, rfl, hsrc⟩ := hpos (by omega)
    have hrun := run_copy_row (P := P) w dT sT o.type elem g off dLen dCap ad sLen sCap cur.toArray t cs hu hsz hg hn hsrc (by simpa using hfit) h1
    unfold Oper.wp
    simp [execOp, ho, resolve, invoke, builtin, hd, hs, hrun, Result.andThen]
    exact h _ (show _ = _ by simpa [splice] using setRow_heap w g _ _ t _ hg) ⟨rfl, rfl, rfl, by simp, fun k _ hk => setRow_other w g k _ (fun e => hk (by rw [e]))⟩


theorem wpList_copy_any {P : Program} {ops : Array Oper} {rest : List Oper} {o : Oper} {a : Act} {w : World} {Q : Exit → Act → World → Prop} (hgd : o.guard = none) (d s : Operand) (dT sT : TypeId)
    (ho : o.op = .call { callee := .builtin .copy, args := #[d, s], argTypes := #[dT, sT] }) (elem : TypeId) (hu : P.underlying dT = some (.slice elem)) (hsz : (P.info? elem).map (·.size) = some 1)
    (dp sp : Option Addr) (dLen dCap sLen sCap : Nat) (hd : a.eval d = .slice dp dLen dCap) (hs : a.eval s = .slice sp sLen sCap)
    (g off : Nat) (cur : List Value) (t : TypeId) (hg : Blk w g t cur.toArray) (cs : List Value) (hn : cs.length = Nat.min sLen dLen)
    (hpos : 0 < cs.length → dp = some ⟨g, off, none⟩ ∧ ∃ ad, sp = some ad ∧ ∀ j v, cs[j]? = some v → w.cell? (ad.add j) = some v)
    (hfit : off + cs.length ≤ cur.length) (h1 : ∀ v ∈ cs, v.oneCell' = true)
    (h : ∀ w', Hid (Blk w' g t (splice cur off cs).toArray) → Hid (w.grownBy w' (some g)) → wpList P ops Q rest (a.put o.dst (goInt cs.length)) w') : wpList P ops Q (o :: rest) a w :=
  wpList_step fun K hK => step_copy_grown hgd d s dT sT ho elem hu hsz dp sp dLen dCap sLen sCap hd hs g off cur t hg cs hn hpos hfit h1 (fun w' h1 h2 => hK _ _ (h w' h1 h2))
theorem run_sl_lR {P : Program} {t e : TypeId} (ht : P.underlying t = some (.slice e)) (hs : (P.info? e).map (·.size) = some 1) (bk off n c lo : Nat) (l : Int) (hl : l = lo) (h1 : lo ≤ n) (h3 : lo < c) (W : World) :
    Sem.run P (Instr.slice t (.slice (some ⟨bk, off, none⟩) n c) (some (.int .i64 l)) none none) W = .ok (.slice (some ⟨bk, off + lo, none⟩) (n - lo) (c - lo)) W := by
  have e2 : P.elem t = e := by simp [Program.elem, ht]
  obtain ⟨i, hi', hi1⟩ := Option.map_eq_some_iff.1 hs
  have hz : (sizeOf e).run P W = .ok 1 W := by simp [sizeOf, typeInfo, hi', hi1]
  subst hl
  rw [run_slice_l (w := W) t (some ⟨bk, off, none⟩) n c (by rw [e2]; exact ht) .i64 lo (by omega) (by omega), e2, hz]
  simp only [Result.andThen_ok, sliced, Int.toNat_natCast, Nat.mul_one]
  rw [if_neg (by omega)]
  simp [add_zero_spot]
theorem run_sl_hR {P : Program} {t e : TypeId} (ht : P.underlying t = some (.slice e)) (hs : (P.info? e).map (·.size) = some 1) (bk off n c hi : Nat) (h : Int) (hh : h = hi) (h1 : hi ≤ c) (W : World) :
    Sem.run P (Instr.slice t (.slice (some ⟨bk, off, none⟩) n c) none (some (.int .i64 h)) none) W = .ok (.slice (some ⟨bk, off, none⟩) hi c) W := by
  have e2 : P.elem t = e := by simp [Program.elem, ht]
  obtain ⟨i, hi', hi1⟩ := Option.map_eq_some_iff.1 hs
  have hz : (sizeOf e).run P W = .ok 1 W := by simp [sizeOf, typeInfo, hi', hi1]
  subst hh
  rw [run_slice_h (w := W) t (some ⟨bk, off, none⟩) n c (by rw [e2]; exact ht) .i64 hi (by omega) (by omega), e2, hz]
  simp only [Result.andThen_ok, sliced, Int.toNat_natCast, Nat.sub_zero, Nat.zero_mul]
  split
  · rfl
  · simp [add_zero_spot]
theorem src_one {w : World} {b off : Nat} {v : Value} (h : w.cell? ⟨b, off, none⟩ = some v) : ∀ (j : Nat) (u : Value), ([v] : List Value)[j]? = some u → w.cell? ((⟨b, off, none⟩ : Addr).add j) = some u := by
  intro j u hj
  rcases j with _ | j
  · simp at hj; subst hj; simpa [add_zero_spot] using h
  · simp at hj
theorem splice_two {L : List Value} {x : Value} {k : Nat} (h : L.take k = List.replicate k x) (hk : k + k ≤ L.length) : (splice L k (List.replicate k x)).take (k + k) = List.replicate (k + k) x := by
  unfold splice
  rw [h, ← List.append_assoc, List.take_append_of_le_length (by simp), List.replicate_append_replicate, List.take_of_length_le (by simp)]
theorem splice_one {L : List Value} {x : Value} (hk : 1 ≤ L.length) : (splice L 0 [x]).take 1 = List.replicate 1 x := by
  unfold splice
  simp
theorem spl_len {L ys : List Value} {k : Nat} (h : k + ys.length ≤ L.length) : (splice L k ys).length = L.length := by
  unfold splice
  simp; omega
def RepM (w : World) (g : Nat) (x : UInt8) (k mm : Nat) (L : List Value) (m : Nat) (W : World) : Prop :=
  Grows w W ∧ (m = 0 → Blk W g 5 L.toArray) ∧ (1 ≤ m → Blk W g 5 (splice L k (List.replicate mm (b8 x))).toArray)
theorem splice_twoM {L : List Value} {x : Value} {k mm : Nat} (h : L.take k = List.replicate k x) (hk : k + mm ≤ L.length) : (splice L k (List.replicate mm x)).take (k + mm) = List.replicate (k + mm) x := by
  unfold splice
  rw [h, ← List.append_assoc, List.replicate_append_replicate, List.take_append_of_le_length (by simp), List.take_of_length_le (by simp)]
theorem mul_1_1 (w : World) : Calls Try.prog 55 #[.int .u64 1, .int .u64 1] w fun e w' => e = .returned (.tuple #[.int .u64 0, .int .u64 1]) ∧ w = w' := by
  have h : Calls Try.prog 60 #[.int .u64 1, .int .u64 1] w fun e w' => e = .returned (.tuple #[.int .u64 0, .int .u64 1]) ∧ w = w' := by
    go_enter Try.func60, Try.ntmps60
    go_wp2
    go_ret2
    exact ⟨rfl, rfl⟩
  go_enter Try.func55, Try.ntmps55
  go_wp2_with fail
  refine h.mono ?_
  rintro e w1 ⟨rfl, rfl⟩
  go_wp2
  go_ret2
  exact ⟨rfl, rfl⟩
set_option maxRecDepth 100000 in
set_option maxHeartbeats 4000000 in
theorem repeat1_any (x : UInt8) (A : Option Addr) (c : Nat) (w : World) (hs : SB w A 1 c [x]) :
    Calls Try.prog 48 #[.slice A 1 c, .int .i64 1] w fun e w' => ∃ g, e = .returned (.slice (some ⟨g, 0, none⟩) 1 1) ∧ Grows w w' ∧ SB w' (some ⟨g, 0, none⟩) 1 1 (List.replicate 1 x) := by
  obtain ⟨cs, hrun, hle, _⟩ := Lib.run_makeNoZero (P := Try.prog) w #[3] 26 5 Try.underlying26 1 (by omega)
  have hcall : (callFunc 56 #[.int .i64 1]).run Try.prog w = .ok (.value (.slice (some ⟨w.heap.size, 0, none⟩) 1 cs.size)) (w.drew.drew.alloc (.cells cs 5)) := by
    rw [run_callFunc_extern Try.func56 (by kernel_rfl) (by kernel_rfl) (by kernel_rfl) (e := Extern.BytealgMakeNoZero.makeNoZero #[3] #[26]) (by kernel_rfl)]
    have h5 : (Extern.BytealgMakeNoZero.makeNoZero #[3] #[26] #[.int .i64 1]).run Try.prog w = .ok (.slice (some ⟨w.heap.size, 0, none⟩) 1 cs.size) (w.drew.drew.alloc (.cells cs 5)) := hrun
    rw [h5]
    rfl
  obtain ⟨m, Hm, hm⟩ : ∃ m, Hid (cs.size = m) ∧ (1 : Int) ≤ (m : Int) := ⟨_, lib_hid rfl, by omega⟩
  obtain ⟨g, Hg⟩ : ∃ x, Hid (w.heap.size = x) := ⟨_, lib_hid rfl⟩
  obtain ⟨W0, HW0, hg0⟩ : ∃ W0 : World, Hid (W0 = w.drew.drew.alloc (.cells cs 5)) ∧ Grows w W0 := ⟨_, lib_hid rfl, ((Grows.refl w).drew.drew).alloc _⟩
  have HB : Hid (Blk W0 g 5 cs) := by unfold Hid; rw [HW0.out, ← Hg.out]; exact Blk.new w.drew.drew _ _
  rw [Hm.out, Hg.out, ← HW0.out] at hcall
  obtain ⟨b, off, eA, hb, hc⟩ := hs.2.2.2.2 (by omega)
  subst eA
  have hcx : w.cell? ⟨b, off, none⟩ = some (b8 x) := by have := hc 0 (by omega); simpa using this
  have hcx0 : W0.cell? ⟨b, off, none⟩ = some (b8 x) := (hg0.cell (p := ⟨b, off, none⟩) hb).trans hcx
  have hc1 : 1 ≤ c := hs.2.1
  have Hgl : Hid (w.heap.size ≤ g) := by rw [← Hg.out]; exact Nat.le_refl _
  have Hcs : Hid (1 ≤ cs.toList.length) := by unfold Hid; rw [Array.length_toList, Hm.out]; omega
  clear hs hrun hle HW0 Hg hc hcx
  go_enter Try.func48, Try.ntmps48
  go_wp2_with fail
  refine (mul_1_1 w).mono ?_
  rintro e w1 ⟨rfl, rfl⟩
  go_upto_region 18 with (refine wpList_copy_any rfl _ _ 26 26 rfl 5 Try.underlying26 Try.sizeByte (some ⟨g, 0, none⟩) (some ⟨b, off, none⟩) 1 1 1 c rfl rfl g 0 cs.toList 5 HB.out [b8 x] rfl (fun _ => ⟨rfl, _, rfl, src_one hcx0⟩) (by have := Hcs.out; show 0 + 1 ≤ _; omega) (b8_one [x]) ?_; intro W1 HB1 HG1)
  have hg1 : Grows w W1 := hg0.grown HG1.out (fun i hi => by cases hi; exact Hgl.out)
  obtain ⟨L1, HL1, HL1l, HL1t⟩ : ∃ L : List Value, Hid (splice cs.toList 0 [b8 x] = L) ∧ Hid (1 ≤ L.length) ∧ Hid (L.take 1 = List.replicate 1 (b8 x)) := ⟨_, lib_hid rfl, by unfold Hid; rw [spl_len (by have := Hcs.out; show 0 + 1 ≤ _; omega)]; exact Hcs.out, lib_hid (splice_one (by have := Hcs.out; omega))⟩
  rw [HL1.out] at HB1
  clear HG1 hcall hcx0 HL1 HB hg0 Hcs hm hc1 hb
  go_loopw [10] (fun v wr => ∃ (k : Nat) (LV : List Value), (1 ≤ k ∧ k ≤ 1) ∧ v = .int .i64 (k : Int) ∧ Grows w wr ∧ Hid (Blk wr g 5 LV.toArray) ∧ Hid (1 ≤ LV.length) ∧ Hid (LV.take k = List.replicate k (b8 x))) (fun v _ => 1 - (intOf v).toNat)
  case atStart => exact ⟨1, L1, by omega, rfl, hg1, HB1, HL1l, HL1t⟩
  case round =>
    clear hg1 HB1 HL1l HL1t
    obtain ⟨k, LV, hk, rfl, hgr, HB, HLl, HLt⟩ := hrel
    by_cases hlt : k < 1
    · have hki : (k : Int) < 1 := by omega
      have hk1 : 1 ≤ k := by omega
      obtain ⟨mm, Hmm⟩ : ∃ mm, Hid (Nat.min k (1 - k) = mm) := ⟨_, lib_hid rfl⟩
      have hm3 : mm ≤ k ∧ k + mm ≤ 1 ∧ 1 ≤ mm := by have := Hmm.out; simp only [Nat.min_def] at this; split at this <;> omega
      have hmin : ¬ (1 : Int) < (k : Int) := by omega
      have Hk := lib_hid (And.intro hlt (And.intro hk1 hm3))
      have hs1 := fun W => run_sl_lR (P := Try.prog) (t := 26) (e := 5) Try.underlying26 Try.sizeByte g 0 1 1 k (k : Int) rfl (by omega) (by omega) W
      have hs2 := fun W => run_sl_hR (P := Try.prog) (t := 26) (e := 5) Try.underlying26 Try.sizeByte g 0 1 1 k (k : Int) rfl (by omega) W
      rw [Nat.zero_add] at hs1
      clear hk hlt hk1 hm3
      go_upto_region 20 with fail
      clear hmin
      have hkm : (k : Int) + (mm : Int) ≤ 1 := by have := Hk.out; omega
      have Hsrc : Hid (∀ W : World, Blk W g 5 LV.toArray → ∀ (j : Nat) (u : Value), (List.replicate mm (b8 x))[j]? = some u → W.cell? ((⟨g, 0, none⟩ : Addr).add j) = some u) := fun W h j u hj => by
        have hjm : j < mm := by
          rcases Nat.lt_or_ge j mm with h' | h'
          · exact h'
          · rw [List.getElem?_eq_none (by simp; exact h')] at hj; cases hj
        have hjk : j < k := by have := Hk.out; omega
        rw [add_zero_spot, Nat.zero_add, h.cell, List.getElem?_toArray]
        have h5 : (LV.take k)[j]? = (List.replicate k (b8 x))[j]? := by rw [HLt.out]
        rw [List.getElem?_take, if_pos hjk] at h5
        rw [h5, ← hj, List.getElem?_replicate, List.getElem?_replicate, if_pos hjk, if_pos hjm]
      have Hlenk : Hid ((List.replicate mm (b8 x)).length = mm) := by unfold Hid; simp
      have HI0 : RepM w g x k mm LV 0 wr.drew := ⟨hgr.drew, fun _ => HB.out.drew, fun h => by omega⟩
      have Hs1 := lib_hid hs1
      have Hs2 := lib_hid hs2
      clear hs1 hs2
      apply wp_region_monoJ (fun _ _ => True) (fun _ => trivial) (ChainJ [7] (fun m W => RepM w g x k mm LV m W)) #[0, 0, 0, 6, 0, 0, 48, 126, 255, 511] 10 ((.is _, []) :: (.is _, []) :: (.is _, []) :: (.is _, []) :: (.is _, []) :: (.is _, []) :: (.is _, []) :: (.is (.int .i64 (mm : Int)), []) :: (.is _, []) :: (.is _, []) :: []) (by kernel_rfl) (chain_start (HI0)) (by kernel_rfl)
      apply MonoJ.is0
      · kernel_rfl
      · intro L W hLk hsh hah hJ
        have hJ2 := lib_hid (chain_pure (k := 0) (w' := W) (by decide) (fun _ h => h) hJ)
        clear hJ hsh hah
        go_wp2
        refine ⟨rfl, rfl, ⟨trivial, hJ2.out⟩, ?_⟩
        unfold Oper.valAt
        go_simp
        rfl
      intro k1 a1 hk1 ha1
      simp only [Nat.reduceAdd] at hk1
      simp only [Act.put, List.setIfInBounds_toArray, List.set_cons_succ, List.set_cons_zero] at ha1
      subst hk1 ha1
      apply MonoJ.is0
      · kernel_rfl
      · intro L W hLk hsh hah hJ
        have hJ2 := lib_hid (chain_pure (k := 1) (w' := W) (by decide) (fun _ h => h) hJ)
        clear hJ hsh hah
        go_wp2
        refine ⟨rfl, rfl, ⟨trivial, hJ2.out⟩, ?_⟩
        unfold Oper.valAt
        go_simp
        rfl
      intro k1 a1 hk1 ha1
      simp only [Nat.reduceAdd] at hk1
      simp only [Act.put, List.setIfInBounds_toArray, List.set_cons_succ, List.set_cons_zero] at ha1
      subst hk1 ha1
      apply MonoJ.is0
      · kernel_rfl
      · intro L W hLk hsh hah hJ
        have hJ2 := lib_hid (chain_pure (k := 2) (w' := W) (by decide) (fun _ h => h) hJ)
        clear hJ hsh hah
        go_wp2
        refine ⟨rfl, rfl, ⟨trivial, hJ2.out⟩, ?_⟩
        unfold Oper.valAt
        go_simp
        rfl
      intro k1 a1 hk1 ha1
      simp only [Nat.reduceAdd] at hk1
      simp only [Act.put, List.setIfInBounds_toArray, List.set_cons_succ, List.set_cons_zero] at ha1
      subst hk1 ha1
      apply MonoJ.is0
      · kernel_rfl
      · intro L W hLk hsh hah hJ
        have hs1 := Hs1.out W
        have hJ2 := lib_hid (chain_pure (k := 3) (w' := W) (by decide) (fun _ h => h) hJ)
        clear hJ hsh hah
        go_wp2
        refine ⟨rfl, rfl, ⟨trivial, hJ2.out⟩, ?_⟩
        unfold Oper.valAt
        go_simp
        rfl
      intro k1 a1 hk1 ha1
      simp only [Nat.reduceAdd] at hk1
      simp only [Act.put, List.setIfInBounds_toArray, List.set_cons_succ, List.set_cons_zero] at ha1
      subst hk1 ha1
      apply MonoJ.is0
      · kernel_rfl
      · intro L W hLk hsh hah hJ
        have hJ2 := lib_hid (chain_pure (k := 4) (w' := W) (by decide) (fun _ h => h) hJ)
        clear hJ hsh hah
        go_wp2
        refine ⟨rfl, rfl, ⟨trivial, hJ2.out⟩, ?_⟩
        unfold Oper.valAt
        go_simp
        rfl
      intro k1 a1 hk1 ha1
      simp only [Nat.reduceAdd] at hk1
      simp only [Act.put, List.setIfInBounds_toArray, List.set_cons_succ, List.set_cons_zero] at ha1
      subst hk1 ha1
      apply MonoJ.is0
      · kernel_rfl
      · intro L W hLk hsh hah hJ
        have hJ2 := lib_hid (chain_pure (k := 5) (w' := W) (by decide) (fun _ h => h) hJ)
        clear hJ hsh hah
        go_wp2
        refine ⟨rfl, rfl, ⟨trivial, hJ2.out⟩, ?_⟩
        unfold Oper.valAt
        go_simp
        rfl
      intro k1 a1 hk1 ha1
      simp only [Nat.reduceAdd] at hk1
      simp only [Act.put, List.setIfInBounds_toArray, List.set_cons_succ, List.set_cons_zero] at ha1
      subst hk1 ha1
      apply MonoJ.is0
      · kernel_rfl
      · intro L W hLk hsh hah hJ
        have hs2 := Hs2.out W
        have hJ2 := lib_hid (chain_pure (k := 6) (w' := W) (by decide) (fun _ h => h) hJ)
        clear hJ hsh hah
        go_wp2
        refine ⟨rfl, rfl, ⟨trivial, hJ2.out⟩, ?_⟩
        unfold Oper.valAt
        go_simp
        rfl
      intro k1 a1 hk1 ha1
      simp only [Nat.reduceAdd] at hk1
      simp only [Act.put, List.setIfInBounds_toArray, List.set_cons_succ, List.set_cons_zero] at ha1
      subst hk1 ha1
      apply MonoJ.is0
      · kernel_rfl
      · intro L W hLk hsh hah hJ
        obtain ⟨hI, hLs⟩ := chain_at (i := 0) (k := 7) rfl hLk (fun j h => by cases h) hJ
        clear hJ hsh hah
        have hB := hI.2.1 rfl
        have hgI := hI.1
        have hend : Hid (∀ w2, (fun m W => RepM w g x k mm LV m W) 1 w2 → ChainJ [7] (fun m W => RepM w g x k mm LV m W) (setL L 7) w2) := fun w2 hw => chain_step (i := 0) (k := 7) rfl (by intro j h; rcases j with _ | _ | _ | _ | _ | _ <;> simp at h <;> omega) hLs hw
        clear hLs hLk
        go_wp2_with (refine wpList_copy_any rfl _ _ 26 26 rfl 5 Try.underlying26 Try.sizeByte (some ⟨g, k, none⟩) (some ⟨g, 0, none⟩) (1 - k) (1 - k) k 1 rfl rfl g k LV 5 hB (List.replicate mm (b8 x)) (by rw [Hlenk.out]; exact Hmm.out.symm) (fun _ => ⟨rfl, ⟨g, 0, none⟩, rfl, Hsrc.out _ hB⟩) (by rw [Hlenk.out]; have := Hk.out; have := HLl.out; omega) (fun v hv => by rw [List.eq_of_mem_replicate hv]; rfl) ?_; intro w4 hB4 hG4; rw [Hlenk.out])
        first | refine ⟨rfl, rfl, hend.out _ ?_, ?_⟩ | refine ⟨rfl, rfl, ⟨trivial, hend.out _ ?_⟩, ?_⟩
        · exact ⟨hgI.grown hG4.out (fun i hi => by cases hi; exact Hgl.out), fun h => by omega, fun _ => hB4.out⟩
        · rfl
      intro k1 a1 hk1 ha1
      simp only [Nat.reduceAdd] at hk1
      simp only [Act.put, List.setIfInBounds_toArray, List.set_cons_succ, List.set_cons_zero] at ha1
      subst hk1 ha1
      apply MonoJ.is0
      · kernel_rfl
      · intro L W hLk hsh hah hJ
        have hJ2 := lib_hid (chain_pure (k := 8) (w' := W) (by decide) (fun _ h => h) hJ)
        clear hJ hsh hah
        go_wp2
        refine ⟨rfl, rfl, ⟨trivial, hJ2.out⟩, ?_⟩
        unfold Oper.valAt
        go_simp
        rfl
      intro k1 a1 hk1 ha1
      simp only [Nat.reduceAdd] at hk1
      simp only [Act.put, List.setIfInBounds_toArray, List.set_cons_succ, List.set_cons_zero] at ha1
      subst hk1 ha1
      apply MonoJ.is0
      · kernel_rfl
      · intro L W hLk hsh hah hJ
        have hJ2 := lib_hid (chain_pure (k := 9) (w' := W) (by decide) (fun _ h => h) hJ)
        clear hJ hsh hah
        go_wp2
        refine ⟨rfl, rfl, ⟨trivial, hJ2.out⟩, ?_⟩
        unfold Oper.valAt
        go_simp
        rfl
      intro k1 a1 hk1 ha1
      simp only [Nat.reduceAdd] at hk1
      simp only [Act.put, List.setIfInBounds_toArray, List.set_cons_succ, List.set_cons_zero] at ha1
      subst hk1 ha1
      refine MonoJ.done ?_
      intro wm hJ
      obtain ⟨mj, hm, hI⟩ := chain_end (by decide) hJ
      clear hJ
      simp only [allF, List.drop_succ_cons, List.drop_nil]
      have hG : Grows w wm := hI.1
      have hB2 := lib_hid (hI.2.2 (by simpa using hm))
      go_wp2
      go_roundw
      case rel => exact ⟨k + mm, splice LV k (List.replicate mm (b8 x)), by have := Hk.out; omega, by go_num, hG, hB2, by unfold Hid; rw [spl_len (by have := Hk.out; have := HLl.out; simp; omega)]; exact HLl.out, splice_twoM HLt.out (by have := Hk.out; have := HLl.out; omega)⟩
      case measure => have := Hk.out; simp [intOf]; omega
    · have hki : ¬ (k : Int) < 1 := by omega
      have hk64 : k = 1 := by omega
      have HS : Hid (SB wr (some ⟨g, 0, none⟩) 1 1 (List.replicate 1 x)) := by
        rw [hk64] at HLt
        have h5 := HB.out.row (o := 0) (n := 1) (c := 1) (Nat.le_refl _) (by simpa using HLl.out) (by unfold maxLen; omega)
        have e : (LV.toArray.toList.drop 0).take 1 = (List.replicate 1 x).map b8 := by rw [List.drop_zero, List.map_replicate]; exact HLt.out
        rw [e] at h5
        exact h5
      clear HB HLl HLt hk hlt
      go_wp2
      go_ret
      exact ⟨g, rfl, hgr, HS.out⟩
theorem mul_1_2 (w : World) : Calls Try.prog 55 #[.int .u64 1, .int .u64 2] w fun e w' => e = .returned (.tuple #[.int .u64 0, .int .u64 2]) ∧ w = w' := by
  have h : Calls Try.prog 60 #[.int .u64 1, .int .u64 2] w fun e w' => e = .returned (.tuple #[.int .u64 0, .int .u64 2]) ∧ w = w' := by
    go_enter Try.func60, Try.ntmps60
    go_wp2
    go_ret2
    exact ⟨rfl, rfl⟩
  go_enter Try.func55, Try.ntmps55
  go_wp2_with fail
  refine h.mono ?_
  rintro e w1 ⟨rfl, rfl⟩
  go_wp2
  go_ret2
  exact ⟨rfl, rfl⟩
set_option maxRecDepth 100000 in
set_option maxHeartbeats 4000000 in
theorem repeat2_any (x : UInt8) (A : Option Addr) (c : Nat) (w : World) (hs : SB w A 1 c [x]) :
    Calls Try.prog 48 #[.slice A 1 c, .int .i64 2] w fun e w' => ∃ g, e = .returned (.slice (some ⟨g, 0, none⟩) 2 2) ∧ Grows w w' ∧ SB w' (some ⟨g, 0, none⟩) 2 2 (List.replicate 2 x) := by
  obtain ⟨cs, hrun, hle, _⟩ := Lib.run_makeNoZero (P := Try.prog) w #[3] 26 5 Try.underlying26 2 (by omega)
  have hcall : (callFunc 56 #[.int .i64 2]).run Try.prog w = .ok (.value (.slice (some ⟨w.heap.size, 0, none⟩) 2 cs.size)) (w.drew.drew.alloc (.cells cs 5)) := by
    rw [run_callFunc_extern Try.func56 (by kernel_rfl) (by kernel_rfl) (by kernel_rfl) (e := Extern.BytealgMakeNoZero.makeNoZero #[3] #[26]) (by kernel_rfl)]
    have h5 : (Extern.BytealgMakeNoZero.makeNoZero #[3] #[26] #[.int .i64 2]).run Try.prog w = .ok (.slice (some ⟨w.heap.size, 0, none⟩) 2 cs.size) (w.drew.drew.alloc (.cells cs 5)) := hrun
    rw [h5]
    rfl
  obtain ⟨m, Hm, hm⟩ : ∃ m, Hid (cs.size = m) ∧ (2 : Int) ≤ (m : Int) := ⟨_, lib_hid rfl, by omega⟩
  obtain ⟨g, Hg⟩ : ∃ x, Hid (w.heap.size = x) := ⟨_, lib_hid rfl⟩
  obtain ⟨W0, HW0, hg0⟩ : ∃ W0 : World, Hid (W0 = w.drew.drew.alloc (.cells cs 5)) ∧ Grows w W0 := ⟨_, lib_hid rfl, ((Grows.refl w).drew.drew).alloc _⟩
  have HB : Hid (Blk W0 g 5 cs) := by unfold Hid; rw [HW0.out, ← Hg.out]; exact Blk.new w.drew.drew _ _
  rw [Hm.out, Hg.out, ← HW0.out] at hcall
  obtain ⟨b, off, eA, hb, hc⟩ := hs.2.2.2.2 (by omega)
  subst eA
  have hcx : w.cell? ⟨b, off, none⟩ = some (b8 x) := by have := hc 0 (by omega); simpa using this
  have hcx0 : W0.cell? ⟨b, off, none⟩ = some (b8 x) := (hg0.cell (p := ⟨b, off, none⟩) hb).trans hcx
  have hc1 : 1 ≤ c := hs.2.1
  have Hgl : Hid (w.heap.size ≤ g) := by rw [← Hg.out]; exact Nat.le_refl _
  have Hcs : Hid (2 ≤ cs.toList.length) := by unfold Hid; rw [Array.length_toList, Hm.out]; omega
  clear hs hrun hle HW0 Hg hc hcx
  go_enter Try.func48, Try.ntmps48
  go_wp2_with fail
  refine (mul_1_2 w).mono ?_
  rintro e w1 ⟨rfl, rfl⟩
  go_upto_region 18 with (refine wpList_copy_any rfl _ _ 26 26 rfl 5 Try.underlying26 Try.sizeByte (some ⟨g, 0, none⟩) (some ⟨b, off, none⟩) 2 2 1 c rfl rfl g 0 cs.toList 5 HB.out [b8 x] rfl (fun _ => ⟨rfl, _, rfl, src_one hcx0⟩) (by have := Hcs.out; show 0 + 1 ≤ _; omega) (b8_one [x]) ?_; intro W1 HB1 HG1)
  have hg1 : Grows w W1 := hg0.grown HG1.out (fun i hi => by cases hi; exact Hgl.out)
  obtain ⟨L1, HL1, HL1l, HL1t⟩ : ∃ L : List Value, Hid (splice cs.toList 0 [b8 x] = L) ∧ Hid (2 ≤ L.length) ∧ Hid (L.take 1 = List.replicate 1 (b8 x)) := ⟨_, lib_hid rfl, by unfold Hid; rw [spl_len (by have := Hcs.out; show 0 + 1 ≤ _; omega)]; exact Hcs.out, lib_hid (splice_one (by have := Hcs.out; omega))⟩
  rw [HL1.out] at HB1
  clear HG1 hcall hcx0 HL1 HB hg0 Hcs hm hc1 hb
  go_loopw [10] (fun v wr => ∃ (k : Nat) (LV : List Value), (1 ≤ k ∧ k ≤ 2) ∧ v = .int .i64 (k : Int) ∧ Grows w wr ∧ Hid (Blk wr g 5 LV.toArray) ∧ Hid (2 ≤ LV.length) ∧ Hid (LV.take k = List.replicate k (b8 x))) (fun v _ => 2 - (intOf v).toNat)
  case atStart => exact ⟨1, L1, by omega, rfl, hg1, HB1, HL1l, HL1t⟩
  case round =>
    clear hg1 HB1 HL1l HL1t
    obtain ⟨k, LV, hk, rfl, hgr, HB, HLl, HLt⟩ := hrel
    by_cases hlt : k < 2
    · have hki : (k : Int) < 2 := by omega
      have hk1 : 1 ≤ k := by omega
      obtain ⟨mm, Hmm⟩ : ∃ mm, Hid (Nat.min k (2 - k) = mm) := ⟨_, lib_hid rfl⟩
      have hm3 : mm ≤ k ∧ k + mm ≤ 2 ∧ 1 ≤ mm := by have := Hmm.out; simp only [Nat.min_def] at this; split at this <;> omega
      have hmin : ¬ (2 : Int) < (k : Int) := by omega
      have Hk := lib_hid (And.intro hlt (And.intro hk1 hm3))
      have hs1 := fun W => run_sl_lR (P := Try.prog) (t := 26) (e := 5) Try.underlying26 Try.sizeByte g 0 2 2 k (k : Int) rfl (by omega) (by omega) W
      have hs2 := fun W => run_sl_hR (P := Try.prog) (t := 26) (e := 5) Try.underlying26 Try.sizeByte g 0 2 2 k (k : Int) rfl (by omega) W
      rw [Nat.zero_add] at hs1
      clear hk hlt hk1 hm3
      go_upto_region 20 with fail
      clear hmin
      have hkm : (k : Int) + (mm : Int) ≤ 2 := by have := Hk.out; omega
      have Hsrc : Hid (∀ W : World, Blk W g 5 LV.toArray → ∀ (j : Nat) (u : Value), (List.replicate mm (b8 x))[j]? = some u → W.cell? ((⟨g, 0, none⟩ : Addr).add j) = some u) := fun W h j u hj => by
        have hjm : j < mm := by
          rcases Nat.lt_or_ge j mm with h' | h'
          · exact h'
          · rw [List.getElem?_eq_none (by simp; exact h')] at hj; cases hj
        have hjk : j < k := by have := Hk.out; omega
        rw [add_zero_spot, Nat.zero_add, h.cell, List.getElem?_toArray]
        have h5 : (LV.take k)[j]? = (List.replicate k (b8 x))[j]? := by rw [HLt.out]
        rw [List.getElem?_take, if_pos hjk] at h5
        rw [h5, ← hj, List.getElem?_replicate, List.getElem?_replicate, if_pos hjk, if_pos hjm]
      have Hlenk : Hid ((List.replicate mm (b8 x)).length = mm) := by unfold Hid; simp
      have HI0 : RepM w g x k mm LV 0 wr.drew := ⟨hgr.drew, fun _ => HB.out.drew, fun h => by omega⟩
      have Hs1 := lib_hid hs1
      have Hs2 := lib_hid hs2
      clear hs1 hs2
      apply wp_region_monoJ (fun _ _ => True) (fun _ => trivial) (ChainJ [7] (fun m W => RepM w g x k mm LV m W)) #[0, 0, 0, 6, 0, 0, 48, 126, 255, 511] 10 ((.is _, []) :: (.is _, []) :: (.is _, []) :: (.is _, []) :: (.is _, []) :: (.is _, []) :: (.is _, []) :: (.is (.int .i64 (mm : Int)), []) :: (.is _, []) :: (.is _, []) :: []) (by kernel_rfl) (chain_start (HI0)) (by kernel_rfl)
      apply MonoJ.is0
      · kernel_rfl
      · intro L W hLk hsh hah hJ
        have hJ2 := lib_hid (chain_pure (k := 0) (w' := W) (by decide) (fun _ h => h) hJ)
        clear hJ hsh hah
        go_wp2
        refine ⟨rfl, rfl, ⟨trivial, hJ2.out⟩, ?_⟩
        unfold Oper.valAt
        go_simp
        rfl
      intro k1 a1 hk1 ha1
      simp only [Nat.reduceAdd] at hk1
      simp only [Act.put, List.setIfInBounds_toArray, List.set_cons_succ, List.set_cons_zero] at ha1
      subst hk1 ha1
      apply MonoJ.is0
      · kernel_rfl
      · intro L W hLk hsh hah hJ
        have hJ2 := lib_hid (chain_pure (k := 1) (w' := W) (by decide) (fun _ h => h) hJ)
        clear hJ hsh hah
        go_wp2
        refine ⟨rfl, rfl, ⟨trivial, hJ2.out⟩, ?_⟩
        unfold Oper.valAt
        go_simp
        rfl
      intro k1 a1 hk1 ha1
      simp only [Nat.reduceAdd] at hk1
      simp only [Act.put, List.setIfInBounds_toArray, List.set_cons_succ, List.set_cons_zero] at ha1
      subst hk1 ha1
      apply MonoJ.is0
      · kernel_rfl
      · intro L W hLk hsh hah hJ
        have hJ2 := lib_hid (chain_pure (k := 2) (w' := W) (by decide) (fun _ h => h) hJ)
        clear hJ hsh hah
        go_wp2
        refine ⟨rfl, rfl, ⟨trivial, hJ2.out⟩, ?_⟩
        unfold Oper.valAt
        go_simp
        rfl
      intro k1 a1 hk1 ha1
      simp only [Nat.reduceAdd] at hk1
      simp only [Act.put, List.setIfInBounds_toArray, List.set_cons_succ, List.set_cons_zero] at ha1
      subst hk1 ha1
      apply MonoJ.is0
      · kernel_rfl
      · intro L W hLk hsh hah hJ
        have hs1 := Hs1.out W
        have hJ2 := lib_hid (chain_pure (k := 3) (w' := W) (by decide) (fun _ h => h) hJ)
        clear hJ hsh hah
        go_wp2
        refine ⟨rfl, rfl, ⟨trivial, hJ2.out⟩, ?_⟩
        unfold Oper.valAt
        go_simp
        rfl
      intro k1 a1 hk1 ha1
      simp only [Nat.reduceAdd] at hk1
      simp only [Act.put, List.setIfInBounds_toArray, List.set_cons_succ, List.set_cons_zero] at ha1
      subst hk1 ha1
      apply MonoJ.is0
      · kernel_rfl
      · intro L W hLk hsh hah hJ
        have hJ2 := lib_hid (chain_pure (k := 4) (w' := W) (by decide) (fun _ h => h) hJ)
        clear hJ hsh hah
        go_wp2
        refine ⟨rfl, rfl, ⟨trivial, hJ2.out⟩, ?_⟩
        unfold Oper.valAt
        go_simp
        rfl
      intro k1 a1 hk1 ha1
      simp only [Nat.reduceAdd] at hk1
      simp only [Act.put, List.setIfInBounds_toArray, List.set_cons_succ, List.set_cons_zero] at ha1
      subst hk1 ha1
      apply MonoJ.is0
      · kernel_rfl
      · intro L W hLk hsh hah hJ
        have hJ2 := lib_hid (chain_pure (k := 5) (w' := W) (by decide) (fun _ h => h) hJ)
        clear hJ hsh hah
        go_wp2
        refine ⟨rfl, rfl, ⟨trivial, hJ2.out⟩, ?_⟩
        unfold Oper.valAt
        go_simp
        rfl
      intro k1 a1 hk1 ha1
      simp only [Nat.reduceAdd] at hk1
      simp only [Act.put, List.setIfInBounds_toArray, List.set_cons_succ, List.set_cons_zero] at ha1
      subst hk1 ha1
      apply MonoJ.is0
      · kernel_rfl
      · intro L W hLk hsh hah hJ
        have hs2 := Hs2.out W
        have hJ2 := lib_hid (chain_pure (k := 6) (w' := W) (by decide) (fun _ h => h) hJ)
        clear hJ hsh hah
        go_wp2
        refine ⟨rfl, rfl, ⟨trivial, hJ2.out⟩, ?_⟩
        unfold Oper.valAt
        go_simp
        rfl
      intro k1 a1 hk1 ha1
      simp only [Nat.reduceAdd] at hk1
      simp only [Act.put, List.setIfInBounds_toArray, List.set_cons_succ, List.set_cons_zero] at ha1
      subst hk1 ha1
      apply MonoJ.is0
      · kernel_rfl
      · intro L W hLk hsh hah hJ
        obtain ⟨hI, hLs⟩ := chain_at (i := 0) (k := 7) rfl hLk (fun j h => by cases h) hJ
        clear hJ hsh hah
        have hB := hI.2.1 rfl
        have hgI := hI.1
        have hend : Hid (∀ w2, (fun m W => RepM w g x k mm LV m W) 1 w2 → ChainJ [7] (fun m W => RepM w g x k mm LV m W) (setL L 7) w2) := fun w2 hw => chain_step (i := 0) (k := 7) rfl (by intro j h; rcases j with _ | _ | _ | _ | _ | _ <;> simp at h <;> omega) hLs hw
        clear hLs hLk
        go_wp2_with (refine wpList_copy_any rfl _ _ 26 26 rfl 5 Try.underlying26 Try.sizeByte (some ⟨g, k, none⟩) (some ⟨g, 0, none⟩) (2 - k) (2 - k) k 2 rfl rfl g k LV 5 hB (List.replicate mm (b8 x)) (by rw [Hlenk.out]; exact Hmm.out.symm) (fun _ => ⟨rfl, ⟨g, 0, none⟩, rfl, Hsrc.out _ hB⟩) (by rw [Hlenk.out]; have := Hk.out; have := HLl.out; omega) (fun v hv => by rw [List.eq_of_mem_replicate hv]; rfl) ?_; intro w4 hB4 hG4; rw [Hlenk.out])
        first | refine ⟨rfl, rfl, hend.out _ ?_, ?_⟩ | refine ⟨rfl, rfl, ⟨trivial, hend.out _ ?_⟩, ?_⟩
        · exact ⟨hgI.grown hG4.out (fun i hi => by cases hi; exact Hgl.out), fun h => by omega, fun _ => hB4.out⟩
        · rfl
      intro k1 a1 hk1 ha1
      simp only [Nat.reduceAdd] at hk1
      simp only [Act.put, List.setIfInBounds_toArray, List.set_cons_succ, List.set_cons_zero] at ha1
      subst hk1 ha1
      apply MonoJ.is0
      · kernel_rfl
      · intro L W hLk hsh hah hJ
        have hJ2 := lib_hid (chain_pure (k := 8) (w' := W) (by decide) (fun _ h => h) hJ)
        clear hJ hsh hah
        go_wp2
        refine ⟨rfl, rfl, ⟨trivial, hJ2.out⟩, ?_⟩
        unfold Oper.valAt
        go_simp
        rfl
      intro k1 a1 hk1 ha1
      simp only [Nat.reduceAdd] at hk1
      simp only [Act.put, List.setIfInBounds_toArray, List.set_cons_succ, List.set_cons_zero] at ha1
      subst hk1 ha1
      apply MonoJ.is0
      · kernel_rfl
      · intro L W hLk hsh hah hJ
        have hJ2 := lib_hid (chain_pure (k := 9) (w' := W) (by decide) (fun _ h => h) hJ)
        clear hJ hsh hah
        go_wp2
        refine ⟨rfl, rfl, ⟨trivial, hJ2.out⟩, ?_⟩
        unfold Oper.valAt
        go_simp
        rfl
      intro k1 a1 hk1 ha1
      simp only [Nat.reduceAdd] at hk1
      simp only [Act.put, List.setIfInBounds_toArray, List.set_cons_succ, List.set_cons_zero] at ha1
      subst hk1 ha1
      refine MonoJ.done ?_
      intro wm hJ
      obtain ⟨mj, hm, hI⟩ := chain_end (by decide) hJ
      clear hJ
      simp only [allF, List.drop_succ_cons, List.drop_nil]
      have hG : Grows w wm := hI.1
      have hB2 := lib_hid (hI.2.2 (by simpa using hm))
      go_wp2
      go_roundw
      case rel => exact ⟨k + mm, splice LV k (List.replicate mm (b8 x)), by have := Hk.out; omega, by go_num, hG, hB2, by unfold Hid; rw [spl_len (by have := Hk.out; have := HLl.out; simp; omega)]; exact HLl.out, splice_twoM HLt.out (by have := Hk.out; have := HLl.out; omega)⟩
      case measure => have := Hk.out; simp [intOf]; omega
    · have hki : ¬ (k : Int) < 2 := by omega
      have hk64 : k = 2 := by omega
      have HS : Hid (SB wr (some ⟨g, 0, none⟩) 2 2 (List.replicate 2 x)) := by
        rw [hk64] at HLt
        have h5 := HB.out.row (o := 0) (n := 2) (c := 2) (Nat.le_refl _) (by simpa using HLl.out) (by unfold maxLen; omega)
        have e : (LV.toArray.toList.drop 0).take 2 = (List.replicate 2 x).map b8 := by rw [List.drop_zero, List.map_replicate]; exact HLt.out
        rw [e] at h5
        exact h5
      clear HB HLl HLt hk hlt
      go_wp2
      go_ret
      exact ⟨g, rfl, hgr, HS.out⟩
theorem mul_1_3 (w : World) : Calls Try.prog 55 #[.int .u64 1, .int .u64 3] w fun e w' => e = .returned (.tuple #[.int .u64 0, .int .u64 3]) ∧ w = w' := by
  have h : Calls Try.prog 60 #[.int .u64 1, .int .u64 3] w fun e w' => e = .returned (.tuple #[.int .u64 0, .int .u64 3]) ∧ w = w' := by
    go_enter Try.func60, Try.ntmps60
    go_wp2
    go_ret2
    exact ⟨rfl, rfl⟩
  go_enter Try.func55, Try.ntmps55
  go_wp2_with fail
  refine h.mono ?_
  rintro e w1 ⟨rfl, rfl⟩
  go_wp2
  go_ret2
  exact ⟨rfl, rfl⟩
set_option maxRecDepth 100000 in
set_option maxHeartbeats 4000000 in
theorem repeat3_any (x : UInt8) (A : Option Addr) (c : Nat) (w : World) (hs : SB w A 1 c [x]) :
    Calls Try.prog 48 #[.slice A 1 c, .int .i64 3] w fun e w' => ∃ g, e = .returned (.slice (some ⟨g, 0, none⟩) 3 3) ∧ Grows w w' ∧ SB w' (some ⟨g, 0, none⟩) 3 3 (List.replicate 3 x) := by
  obtain ⟨cs, hrun, hle, _⟩ := Lib.run_makeNoZero (P := Try.prog) w #[3] 26 5 Try.underlying26 3 (by omega)
  have hcall : (callFunc 56 #[.int .i64 3]).run Try.prog w = .ok (.value (.slice (some ⟨w.heap.size, 0, none⟩) 3 cs.size)) (w.drew.drew.alloc (.cells cs 5)) := by
    rw [run_callFunc_extern Try.func56 (by kernel_rfl) (by kernel_rfl) (by kernel_rfl) (e := Extern.BytealgMakeNoZero.makeNoZero #[3] #[26]) (by kernel_rfl)]
    have h5 : (Extern.BytealgMakeNoZero.makeNoZero #[3] #[26] #[.int .i64 3]).run Try.prog w = .ok (.slice (some ⟨w.heap.size, 0, none⟩) 3 cs.size) (w.drew.drew.alloc (.cells cs 5)) := hrun
    rw [h5]
    rfl
  obtain ⟨m, Hm, hm⟩ : ∃ m, Hid (cs.size = m) ∧ (3 : Int) ≤ (m : Int) := ⟨_, lib_hid rfl, by omega⟩
  obtain ⟨g, Hg⟩ : ∃ x, Hid (w.heap.size = x) := ⟨_, lib_hid rfl⟩
  obtain ⟨W0, HW0, hg0⟩ : ∃ W0 : World, Hid (W0 = w.drew.drew.alloc (.cells cs 5)) ∧ Grows w W0 := ⟨_, lib_hid rfl, ((Grows.refl w).drew.drew).alloc _⟩
  have HB : Hid (Blk W0 g 5 cs) := by unfold Hid; rw [HW0.out, ← Hg.out]; exact Blk.new w.drew.drew _ _
  rw [Hm.out, Hg.out, ← HW0.out] at hcall
  obtain ⟨b, off, eA, hb, hc⟩ := hs.2.2.2.2 (by omega)
  subst eA
  have hcx : w.cell? ⟨b, off, none⟩ = some (b8 x) := by have := hc 0 (by omega); simpa using this
  have hcx0 : W0.cell? ⟨b, off, none⟩ = some (b8 x) := (hg0.cell (p := ⟨b, off, none⟩) hb).trans hcx
  have hc1 : 1 ≤ c := hs.2.1
  have Hgl : Hid (w.heap.size ≤ g) := by rw [← Hg.out]; exact Nat.le_refl _
  have Hcs : Hid (3 ≤ cs.toList.length) := by unfold Hid; rw [Array.length_toList, Hm.out]; omega
  clear hs hrun hle HW0 Hg hc hcx
  go_enter Try.func48, Try.ntmps48
  go_wp2_with fail
  refine (mul_1_3 w).mono ?_
  rintro e w1 ⟨rfl, rfl⟩
  go_upto_region 18 with (refine wpList_copy_any rfl _ _ 26 26 rfl 5 Try.underlying26 Try.sizeByte (some ⟨g, 0, none⟩) (some ⟨b, off, none⟩) 3 3 1 c rfl rfl g 0 cs.toList 5 HB.out [b8 x] rfl (fun _ => ⟨rfl, _, rfl, src_one hcx0⟩) (by have := Hcs.out; show 0 + 1 ≤ _; omega) (b8_one [x]) ?_; intro W1 HB1 HG1)
  have hg1 : Grows w W1 := hg0.grown HG1.out (fun i hi => by cases hi; exact Hgl.out)
  obtain ⟨L1, HL1, HL1l, HL1t⟩ : ∃ L : List Value, Hid (splice cs.toList 0 [b8 x] = L) ∧ Hid (3 ≤ L.length) ∧ Hid (L.take 1 = List.replicate 1 (b8 x)) := ⟨_, lib_hid rfl, by unfold Hid; rw [spl_len (by have := Hcs.out; show 0 + 1 ≤ _; omega)]; exact Hcs.out, lib_hid (splice_one (by have := Hcs.out; omega))⟩
  rw [HL1.out] at HB1
  clear HG1 hcall hcx0 HL1 HB hg0 Hcs hm hc1 hb
  go_loopw [10] (fun v wr => ∃ (k : Nat) (LV : List Value), (1 ≤ k ∧ k ≤ 3) ∧ v = .int .i64 (k : Int) ∧ Grows w wr ∧ Hid (Blk wr g 5 LV.toArray) ∧ Hid (3 ≤ LV.length) ∧ Hid (LV.take k = List.replicate k (b8 x))) (fun v _ => 3 - (intOf v).toNat)
  case atStart => exact ⟨1, L1, by omega, rfl, hg1, HB1, HL1l, HL1t⟩
  case round =>
    clear hg1 HB1 HL1l HL1t
    obtain ⟨k, LV, hk, rfl, hgr, HB, HLl, HLt⟩ := hrel
    by_cases hlt : k < 3
    · have hki : (k : Int) < 3 := by omega
      have hk1 : 1 ≤ k := by omega
      obtain ⟨mm, Hmm⟩ : ∃ mm, Hid (Nat.min k (3 - k) = mm) := ⟨_, lib_hid rfl⟩
      have hm3 : mm ≤ k ∧ k + mm ≤ 3 ∧ 1 ≤ mm := by have := Hmm.out; simp only [Nat.min_def] at this; split at this <;> omega
      have hmin : ¬ (3 : Int) < (k : Int) := by omega
      have Hk := lib_hid (And.intro hlt (And.intro hk1 hm3))
      have hs1 := fun W => run_sl_lR (P := Try.prog) (t := 26) (e := 5) Try.underlying26 Try.sizeByte g 0 3 3 k (k : Int) rfl (by omega) (by omega) W
      have hs2 := fun W => run_sl_hR (P := Try.prog) (t := 26) (e := 5) Try.underlying26 Try.sizeByte g 0 3 3 k (k : Int) rfl (by omega) W
      rw [Nat.zero_add] at hs1
      clear hk hlt hk1 hm3
      go_upto_region 20 with fail
      clear hmin
      have hkm : (k : Int) + (mm : Int) ≤ 3 := by have := Hk.out; omega
      have Hsrc : Hid (∀ W : World, Blk W g 5 LV.toArray → ∀ (j : Nat) (u : Value), (List.replicate mm (b8 x))[j]? = some u → W.cell? ((⟨g, 0, none⟩ : Addr).add j) = some u) := fun W h j u hj => by
        have hjm : j < mm := by
          rcases Nat.lt_or_ge j mm with h' | h'
          · exact h'
          · rw [List.getElem?_eq_none (by simp; exact h')] at hj; cases hj
        have hjk : j < k := by have := Hk.out; omega
        rw [add_zero_spot, Nat.zero_add, h.cell, List.getElem?_toArray]
        have h5 : (LV.take k)[j]? = (List.replicate k (b8 x))[j]? := by rw [HLt.out]
        rw [List.getElem?_take, if_pos hjk] at h5
        rw [h5, ← hj, List.getElem?_replicate, List.getElem?_replicate, if_pos hjk, if_pos hjm]
      have Hlenk : Hid ((List.replicate mm (b8 x)).length = mm) := by unfold Hid; simp
      have HI0 : RepM w g x k mm LV 0 wr.drew := ⟨hgr.drew, fun _ => HB.out.drew, fun h => by omega⟩
      have Hs1 := lib_hid hs1
      have Hs2 := lib_hid hs2
      clear hs1 hs2
      apply wp_region_monoJ (fun _ _ => True) (fun _ => trivial) (ChainJ [7] (fun m W => RepM w g x k mm LV m W)) #[0, 0, 0, 6, 0, 0, 48, 126, 255, 511] 10 ((.is _, []) :: (.is _, []) :: (.is _, []) :: (.is _, []) :: (.is _, []) :: (.is _, []) :: (.is _, []) :: (.is (.int .i64 (mm : Int)), []) :: (.is _, []) :: (.is _, []) :: []) (by kernel_rfl) (chain_start (HI0)) (by kernel_rfl)
      apply MonoJ.is0
      · kernel_rfl
      · intro L W hLk hsh hah hJ
        have hJ2 := lib_hid (chain_pure (k := 0) (w' := W) (by decide) (fun _ h => h) hJ)
        clear hJ hsh hah
        go_wp2
        refine ⟨rfl, rfl, ⟨trivial, hJ2.out⟩, ?_⟩
        unfold Oper.valAt
        go_simp
        rfl
      intro k1 a1 hk1 ha1
      simp only [Nat.reduceAdd] at hk1
      simp only [Act.put, List.setIfInBounds_toArray, List.set_cons_succ, List.set_cons_zero] at ha1
      subst hk1 ha1
      apply MonoJ.is0
      · kernel_rfl
      · intro L W hLk hsh hah hJ
        have hJ2 := lib_hid (chain_pure (k := 1) (w' := W) (by decide) (fun _ h => h) hJ)
        clear hJ hsh hah
        go_wp2
        refine ⟨rfl, rfl, ⟨trivial, hJ2.out⟩, ?_⟩
        unfold Oper.valAt
        go_simp
        rfl
      intro k1 a1 hk1 ha1
      simp only [Nat.reduceAdd] at hk1
      simp only [Act.put, List.setIfInBounds_toArray, List.set_cons_succ, List.set_cons_zero] at ha1
      subst hk1 ha1
      apply MonoJ.is0
      · kernel_rfl
      · intro L W hLk hsh hah hJ
        have hJ2 := lib_hid (chain_pure (k := 2) (w' := W) (by decide) (fun _ h => h) hJ)
        clear hJ hsh hah
        go_wp2
        refine ⟨rfl, rfl, ⟨trivial, hJ2.out⟩, ?_⟩
        unfold Oper.valAt
        go_simp
        rfl
      intro k1 a1 hk1 ha1
      simp only [Nat.reduceAdd] at hk1
      simp only [Act.put, List.setIfInBounds_toArray, List.set_cons_succ, List.set_cons_zero] at ha1
      subst hk1 ha1
      apply MonoJ.is0
      · kernel_rfl
      · intro L W hLk hsh hah hJ
        have hs1 := Hs1.out W
        have hJ2 := lib_hid (chain_pure (k := 3) (w' := W) (by decide) (fun _ h => h) hJ)
        clear hJ hsh hah
        go_wp2
        refine ⟨rfl, rfl, ⟨trivial, hJ2.out⟩, ?_⟩
        unfold Oper.valAt
        go_simp
        rfl
      intro k1 a1 hk1 ha1
      simp only [Nat.reduceAdd] at hk1
      simp only [Act.put, List.setIfInBounds_toArray, List.set_cons_succ, List.set_cons_zero] at ha1
      subst hk1 ha1
      apply MonoJ.is0
      · kernel_rfl
      · intro L W hLk hsh hah hJ
        have hJ2 := lib_hid (chain_pure (k := 4) (w' := W) (by decide) (fun _ h => h) hJ)
        clear hJ hsh hah
        go_wp2
        refine ⟨rfl, rfl, ⟨trivial, hJ2.out⟩, ?_⟩
        unfold Oper.valAt
        go_simp
        rfl
      intro k1 a1 hk1 ha1
      simp only [Nat.reduceAdd] at hk1
      simp only [Act.put, List.setIfInBounds_toArray, List.set_cons_succ, List.set_cons_zero] at ha1
      subst hk1 ha1
      apply MonoJ.is0
      · kernel_rfl
      · intro L W hLk hsh hah hJ
        have hJ2 := lib_hid (chain_pure (k := 5) (w' := W) (by decide) (fun _ h => h) hJ)
        clear hJ hsh hah
        go_wp2
        refine ⟨rfl, rfl, ⟨trivial, hJ2.out⟩, ?_⟩
        unfold Oper.valAt
        go_simp
        rfl
      intro k1 a1 hk1 ha1
      simp only [Nat.reduceAdd] at hk1
      simp only [Act.put, List.setIfInBounds_toArray, List.set_cons_succ, List.set_cons_zero] at ha1
      subst hk1 ha1
      apply MonoJ.is0
      · kernel_rfl
      · intro L W hLk hsh hah hJ
        have hs2 := Hs2.out W
        have hJ2 := lib_hid (chain_pure (k := 6) (w' := W) (by decide) (fun _ h => h) hJ)
        clear hJ hsh hah
        go_wp2
        refine ⟨rfl, rfl, ⟨trivial, hJ2.out⟩, ?_⟩
        unfold Oper.valAt
        go_simp
        rfl
      intro k1 a1 hk1 ha1
      simp only [Nat.reduceAdd] at hk1
      simp only [Act.put, List.setIfInBounds_toArray, List.set_cons_succ, List.set_cons_zero] at ha1
      subst hk1 ha1
      apply MonoJ.is0
      · kernel_rfl
      · intro L W hLk hsh hah hJ
        obtain ⟨hI, hLs⟩ := chain_at (i := 0) (k := 7) rfl hLk (fun j h => by cases h) hJ
        clear hJ hsh hah
        have hB := hI.2.1 rfl
        have hgI := hI.1
        have hend : Hid (∀ w2, (fun m W => RepM w g x k mm LV m W) 1 w2 → ChainJ [7] (fun m W => RepM w g x k mm LV m W) (setL L 7) w2) := fun w2 hw => chain_step (i := 0) (k := 7) rfl (by intro j h; rcases j with _ | _ | _ | _ | _ | _ <;> simp at h <;> omega) hLs hw
        clear hLs hLk
        go_wp2_with (refine wpList_copy_any rfl _ _ 26 26 rfl 5 Try.underlying26 Try.sizeByte (some ⟨g, k, none⟩) (some ⟨g, 0, none⟩) (3 - k) (3 - k) k 3 rfl rfl g k LV 5 hB (List.replicate mm (b8 x)) (by rw [Hlenk.out]; exact Hmm.out.symm) (fun _ => ⟨rfl, ⟨g, 0, none⟩, rfl, Hsrc.out _ hB⟩) (by rw [Hlenk.out]; have := Hk.out; have := HLl.out; omega) (fun v hv => by rw [List.eq_of_mem_replicate hv]; rfl) ?_; intro w4 hB4 hG4; rw [Hlenk.out])
        first | refine ⟨rfl, rfl, hend.out _ ?_, ?_⟩ | refine ⟨rfl, rfl, ⟨trivial, hend.out _ ?_⟩, ?_⟩
        · exact ⟨hgI.grown hG4.out (fun i hi => by cases hi; exact Hgl.out), fun h => by omega, fun _ => hB4.out⟩
        · rfl
      intro k1 a1 hk1 ha1
      simp only [Nat.reduceAdd] at hk1
      simp only [Act.put, List.setIfInBounds_toArray, List.set_cons_succ, List.set_cons_zero] at ha1
      subst hk1 ha1
      apply MonoJ.is0
      · kernel_rfl
      · intro L W hLk hsh hah hJ
        have hJ2 := lib_hid (chain_pure (k := 8) (w' := W) (by decide) (fun _ h => h) hJ)
        clear hJ hsh hah
        go_wp2
        refine ⟨rfl, rfl, ⟨trivial, hJ2.out⟩, ?_⟩
        unfold Oper.valAt
        go_simp
        rfl
      intro k1 a1 hk1 ha1
      simp only [Nat.reduceAdd] at hk1
      simp only [Act.put, List.setIfInBounds_toArray, List.set_cons_succ, List.set_cons_zero] at ha1
      subst hk1 ha1
      apply MonoJ.is0
      · kernel_rfl
      · intro L W hLk hsh hah hJ
        have hJ2 := lib_hid (chain_pure (k := 9) (w' := W) (by decide) (fun _ h => h) hJ)
        clear hJ hsh hah
        go_wp2
        refine ⟨rfl, rfl, ⟨trivial, hJ2.out⟩, ?_⟩
        unfold Oper.valAt
        go_simp
        rfl
      intro k1 a1 hk1 ha1
      simp only [Nat.reduceAdd] at hk1
      simp only [Act.put, List.setIfInBounds_toArray, List.set_cons_succ, List.set_cons_zero] at ha1
      subst hk1 ha1
      refine MonoJ.done ?_
      intro wm hJ
      obtain ⟨mj, hm, hI⟩ := chain_end (by decide) hJ
      clear hJ
      simp only [allF, List.drop_succ_cons, List.drop_nil]
      have hG : Grows w wm := hI.1
      have hB2 := lib_hid (hI.2.2 (by simpa using hm))
      go_wp2
      go_roundw
      case rel => exact ⟨k + mm, splice LV k (List.replicate mm (b8 x)), by have := Hk.out; omega, by go_num, hG, hB2, by unfold Hid; rw [spl_len (by have := Hk.out; have := HLl.out; simp; omega)]; exact HLl.out, splice_twoM HLt.out (by have := Hk.out; have := HLl.out; omega)⟩
      case measure => have := Hk.out; simp [intOf]; omega
    · have hki : ¬ (k : Int) < 3 := by omega
      have hk64 : k = 3 := by omega
      have HS : Hid (SB wr (some ⟨g, 0, none⟩) 3 3 (List.replicate 3 x)) := by
        rw [hk64] at HLt
        have h5 := HB.out.row (o := 0) (n := 3) (c := 3) (Nat.le_refl _) (by simpa using HLl.out) (by unfold maxLen; omega)
        have e : (LV.toArray.toList.drop 0).take 3 = (List.replicate 3 x).map b8 := by rw [List.drop_zero, List.map_replicate]; exact HLt.out
        rw [e] at h5
        exact h5
      clear HB HLl HLt hk hlt
      go_wp2
      go_ret
      exact ⟨g, rfl, hgr, HS.out⟩
theorem mul_1_4 (w : World) : Calls Try.prog 55 #[.int .u64 1, .int .u64 4] w fun e w' => e = .returned (.tuple #[.int .u64 0, .int .u64 4]) ∧ w = w' := by
  have h : Calls Try.prog 60 #[.int .u64 1, .int .u64 4] w fun e w' => e = .returned (.tuple #[.int .u64 0, .int .u64 4]) ∧ w = w' := by
    go_enter Try.func60, Try.ntmps60
    go_wp2
    go_ret2
    exact ⟨rfl, rfl⟩
  go_enter Try.func55, Try.ntmps55
  go_wp2_with fail
  refine h.mono ?_
  rintro e w1 ⟨rfl, rfl⟩
  go_wp2
  go_ret2
  exact ⟨rfl, rfl⟩
set_option maxRecDepth 100000 in
set_option maxHeartbeats 4000000 in
theorem repeat4_any (x : UInt8) (A : Option Addr) (c : Nat) (w : World) (hs : SB w A 1 c [x]) :
    Calls Try.prog 48 #[.slice A 1 c, .int .i64 4] w fun e w' => ∃ g, e = .returned (.slice (some ⟨g, 0, none⟩) 4 4) ∧ Grows w w' ∧ SB w' (some ⟨g, 0, none⟩) 4 4 (List.replicate 4 x) := by
  obtain ⟨cs, hrun, hle, _⟩ := Lib.run_makeNoZero (P := Try.prog) w #[3] 26 5 Try.underlying26 4 (by omega)
  have hcall : (callFunc 56 #[.int .i64 4]).run Try.prog w = .ok (.value (.slice (some ⟨w.heap.size, 0, none⟩) 4 cs.size)) (w.drew.drew.alloc (.cells cs 5)) := by
    rw [run_callFunc_extern Try.func56 (by kernel_rfl) (by kernel_rfl) (by kernel_rfl) (e := Extern.BytealgMakeNoZero.makeNoZero #[3] #[26]) (by kernel_rfl)]
    have h5 : (Extern.BytealgMakeNoZero.makeNoZero #[3] #[26] #[.int .i64 4]).run Try.prog w = .ok (.slice (some ⟨w.heap.size, 0, none⟩) 4 cs.size) (w.drew.drew.alloc (.cells cs 5)) := hrun
    rw [h5]
    rfl
  obtain ⟨m, Hm, hm⟩ : ∃ m, Hid (cs.size = m) ∧ (4 : Int) ≤ (m : Int) := ⟨_, lib_hid rfl, by omega⟩
  obtain ⟨g, Hg⟩ : ∃ x, Hid (w.heap.size = x) := ⟨_, lib_hid rfl⟩
  obtain ⟨W0, HW0, hg0⟩ : ∃ W0 : World, Hid (W0 = w.drew.drew.alloc (.cells cs 5)) ∧ Grows w W0 := ⟨_, lib_hid rfl, ((Grows.refl w).drew.drew).alloc _⟩
  have HB : Hid (Blk W0 g 5 cs) := by unfold Hid; rw [HW0.out, ← Hg.out]; exact Blk.new w.drew.drew _ _
  rw [Hm.out, Hg.out, ← HW0.out] at hcall
  obtain ⟨b, off, eA, hb, hc⟩ := hs.2.2.2.2 (by omega)
  subst eA
  have hcx : w.cell? ⟨b, off, none⟩ = some (b8 x) := by have := hc 0 (by omega); simpa using this
  have hcx0 : W0.cell? ⟨b, off, none⟩ = some (b8 x) := (hg0.cell (p := ⟨b, off, none⟩) hb).trans hcx
  have hc1 : 1 ≤ c := hs.2.1
  have Hgl : Hid (w.heap.size ≤ g) := by rw [← Hg.out]; exact Nat.le_refl _
  have Hcs : Hid (4 ≤ cs.toList.length) := by unfold Hid; rw [Array.length_toList, Hm.out]; omega
  clear hs hrun hle HW0 Hg hc hcx
  go_enter Try.func48, Try.ntmps48
  go_wp2_with fail
  refine (mul_1_4 w).mono ?_
  rintro e w1 ⟨rfl, rfl⟩
  go_upto_region 18 with (refine wpList_copy_any rfl _ _ 26 26 rfl 5 Try.underlying26 Try.sizeByte (some ⟨g, 0, none⟩) (some ⟨b, off, none⟩) 4 4 1 c rfl rfl g 0 cs.toList 5 HB.out [b8 x] rfl (fun _ => ⟨rfl, _, rfl, src_one hcx0⟩) (by have := Hcs.out; show 0 + 1 ≤ _; omega) (b8_one [x]) ?_; intro W1 HB1 HG1)
  have hg1 : Grows w W1 := hg0.grown HG1.out (fun i hi => by cases hi; exact Hgl.out)
  obtain ⟨L1, HL1, HL1l, HL1t⟩ : ∃ L : List Value, Hid (splice cs.toList 0 [b8 x] = L) ∧ Hid (4 ≤ L.length) ∧ Hid (L.take 1 = List.replicate 1 (b8 x)) := ⟨_, lib_hid rfl, by unfold Hid; rw [spl_len (by have := Hcs.out; show 0 + 1 ≤ _; omega)]; exact Hcs.out, lib_hid (splice_one (by have := Hcs.out; omega))⟩
  rw [HL1.out] at HB1
  clear HG1 hcall hcx0 HL1 HB hg0 Hcs hm hc1 hb
  go_loopw [10] (fun v wr => ∃ (k : Nat) (LV : List Value), (1 ≤ k ∧ k ≤ 4) ∧ v = .int .i64 (k : Int) ∧ Grows w wr ∧ Hid (Blk wr g 5 LV.toArray) ∧ Hid (4 ≤ LV.length) ∧ Hid (LV.take k = List.replicate k (b8 x))) (fun v _ => 4 - (intOf v).toNat)
  case atStart => exact ⟨1, L1, by omega, rfl, hg1, HB1, HL1l, HL1t⟩
  case round =>
    clear hg1 HB1 HL1l HL1t
    obtain ⟨k, LV, hk, rfl, hgr, HB, HLl, HLt⟩ := hrel
    by_cases hlt : k < 4
    · have hki : (k : Int) < 4 := by omega
      have hk1 : 1 ≤ k := by omega
      obtain ⟨mm, Hmm⟩ : ∃ mm, Hid (Nat.min k (4 - k) = mm) := ⟨_, lib_hid rfl⟩
      have hm3 : mm ≤ k ∧ k + mm ≤ 4 ∧ 1 ≤ mm := by have := Hmm.out; simp only [Nat.min_def] at this; split at this <;> omega
      have hmin : ¬ (4 : Int) < (k : Int) := by omega
      have Hk := lib_hid (And.intro hlt (And.intro hk1 hm3))
      have hs1 := fun W => run_sl_lR (P := Try.prog) (t := 26) (e := 5) Try.underlying26 Try.sizeByte g 0 4 4 k (k : Int) rfl (by omega) (by omega) W
      have hs2 := fun W => run_sl_hR (P := Try.prog) (t := 26) (e := 5) Try.underlying26 Try.sizeByte g 0 4 4 k (k : Int) rfl (by omega) W
      rw [Nat.zero_add] at hs1
      clear hk hlt hk1 hm3
      go_upto_region 20 with fail
      clear hmin
      have hkm : (k : Int) + (mm : Int) ≤ 4 := by have := Hk.out; omega
      have Hsrc : Hid (∀ W : World, Blk W g 5 LV.toArray → ∀ (j : Nat) (u : Value), (List.replicate mm (b8 x))[j]? = some u → W.cell? ((⟨g, 0, none⟩ : Addr).add j) = some u) := fun W h j u hj => by
        have hjm : j < mm := by
          rcases Nat.lt_or_ge j mm with h' | h'
          · exact h'
          · rw [List.getElem?_eq_none (by simp; exact h')] at hj; cases hj
        have hjk : j < k := by have := Hk.out; omega
        rw [add_zero_spot, Nat.zero_add, h.cell, List.getElem?_toArray]
        have h5 : (LV.take k)[j]? = (List.replicate k (b8 x))[j]? := by rw [HLt.out]
        rw [List.getElem?_take, if_pos hjk] at h5
        rw [h5, ← hj, List.getElem?_replicate, List.getElem?_replicate, if_pos hjk, if_pos hjm]
      have Hlenk : Hid ((List.replicate mm (b8 x)).length = mm) := by unfold Hid; simp
      have HI0 : RepM w g x k mm LV 0 wr.drew := ⟨hgr.drew, fun _ => HB.out.drew, fun h => by omega⟩
      have Hs1 := lib_hid hs1
      have Hs2 := lib_hid hs2
      clear hs1 hs2
      apply wp_region_monoJ (fun _ _ => True) (fun _ => trivial) (ChainJ [7] (fun m W => RepM w g x k mm LV m W)) #[0, 0, 0, 6, 0, 0, 48, 126, 255, 511] 10 ((.is _, []) :: (.is _, []) :: (.is _, []) :: (.is _, []) :: (.is _, []) :: (.is _, []) :: (.is _, []) :: (.is (.int .i64 (mm : Int)), []) :: (.is _, []) :: (.is _, []) :: []) (by kernel_rfl) (chain_start (HI0)) (by kernel_rfl)
      apply MonoJ.is0
      · kernel_rfl
      · intro L W hLk hsh hah hJ
        have hJ2 := lib_hid (chain_pure (k := 0) (w' := W) (by decide) (fun _ h => h) hJ)
        clear hJ hsh hah
        go_wp2
        refine ⟨rfl, rfl, ⟨trivial, hJ2.out⟩, ?_⟩
        unfold Oper.valAt
        go_simp
        rfl
      intro k1 a1 hk1 ha1
      simp only [Nat.reduceAdd] at hk1
      simp only [Act.put, List.setIfInBounds_toArray, List.set_cons_succ, List.set_cons_zero] at ha1
      subst hk1 ha1
      apply MonoJ.is0
      · kernel_rfl
      · intro L W hLk hsh hah hJ
        have hJ2 := lib_hid (chain_pure (k := 1) (w' := W) (by decide) (fun _ h => h) hJ)
        clear hJ hsh hah
        go_wp2
        refine ⟨rfl, rfl, ⟨trivial, hJ2.out⟩, ?_⟩
        unfold Oper.valAt
        go_simp
        rfl
      intro k1 a1 hk1 ha1
      simp only [Nat.reduceAdd] at hk1
      simp only [Act.put, List.setIfInBounds_toArray, List.set_cons_succ, List.set_cons_zero] at ha1
      subst hk1 ha1
      apply MonoJ.is0
      · kernel_rfl
      · intro L W hLk hsh hah hJ
        have hJ2 := lib_hid (chain_pure (k := 2) (w' := W) (by decide) (fun _ h => h) hJ)
        clear hJ hsh hah
        go_wp2
        refine ⟨rfl, rfl, ⟨trivial, hJ2.out⟩, ?_⟩
        unfold Oper.valAt
        go_simp
        rfl
      intro k1 a1 hk1 ha1
      simp only [Nat.reduceAdd] at hk1
      simp only [Act.put, List.setIfInBounds_toArray, List.set_cons_succ, List.set_cons_zero] at ha1
      subst hk1 ha1
      apply MonoJ.is0
      · kernel_rfl
      · intro L W hLk hsh hah hJ
        have hs1 := Hs1.out W
        have hJ2 := lib_hid (chain_pure (k := 3) (w' := W) (by decide) (fun _ h => h) hJ)
        clear hJ hsh hah
        go_wp2
        refine ⟨rfl, rfl, ⟨trivial, hJ2.out⟩, ?_⟩
        unfold Oper.valAt
        go_simp
        rfl
      intro k1 a1 hk1 ha1
      simp only [Nat.reduceAdd] at hk1
      simp only [Act.put, List.setIfInBounds_toArray, List.set_cons_succ, List.set_cons_zero] at ha1
      subst hk1 ha1
      apply MonoJ.is0
      · kernel_rfl
      · intro L W hLk hsh hah hJ
        have hJ2 := lib_hid (chain_pure (k := 4) (w' := W) (by decide) (fun _ h => h) hJ)
        clear hJ hsh hah
        go_wp2
        refine ⟨rfl, rfl, ⟨trivial, hJ2.out⟩, ?_⟩
        unfold Oper.valAt
        go_simp
        rfl
      intro k1 a1 hk1 ha1
      simp only [Nat.reduceAdd] at hk1
      simp only [Act.put, List.setIfInBounds_toArray, List.set_cons_succ, List.set_cons_zero] at ha1
      subst hk1 ha1
      apply MonoJ.is0
      · kernel_rfl
      · intro L W hLk hsh hah hJ
        have hJ2 := lib_hid (chain_pure (k := 5) (w' := W) (by decide) (fun _ h => h) hJ)
        clear hJ hsh hah
        go_wp2
        refine ⟨rfl, rfl, ⟨trivial, hJ2.out⟩, ?_⟩
        unfold Oper.valAt
        go_simp
        rfl
      intro k1 a1 hk1 ha1
      simp only [Nat.reduceAdd] at hk1
      simp only [Act.put, List.setIfInBounds_toArray, List.set_cons_succ, List.set_cons_zero] at ha1
      subst hk1 ha1
      apply MonoJ.is0
      · kernel_rfl
      · intro L W hLk hsh hah hJ
        have hs2 := Hs2.out W
        have hJ2 := lib_hid (chain_pure (k := 6) (w' := W) (by decide) (fun _ h => h) hJ)
        clear hJ hsh hah
        go_wp2
        refine ⟨rfl, rfl, ⟨trivial, hJ2.out⟩, ?_⟩
        unfold Oper.valAt
        go_simp
        rfl
      intro k1 a1 hk1 ha1
      simp only [Nat.reduceAdd] at hk1
      simp only [Act.put, List.setIfInBounds_toArray, List.set_cons_succ, List.set_cons_zero] at ha1
      subst hk1 ha1
      apply MonoJ.is0
      · kernel_rfl
      · intro L W hLk hsh hah hJ
        obtain ⟨hI, hLs⟩ := chain_at (i := 0) (k := 7) rfl hLk (fun j h => by cases h) hJ
        clear hJ hsh hah
        have hB := hI.2.1 rfl
        have hgI := hI.1
        have hend : Hid (∀ w2, (fun m W => RepM w g x k mm LV m W) 1 w2 → ChainJ [7] (fun m W => RepM w g x k mm LV m W) (setL L 7) w2) := fun w2 hw => chain_step (i := 0) (k := 7) rfl (by intro j h; rcases j with _ | _ | _ | _ | _ | _ <;> simp at h <;> omega) hLs hw
        clear hLs hLk
        go_wp2_with (refine wpList_copy_any rfl _ _ 26 26 rfl 5 Try.underlying26 Try.sizeByte (some ⟨g, k, none⟩) (some ⟨g, 0, none⟩) (4 - k) (4 - k) k 4 rfl rfl g k LV 5 hB (List.replicate mm (b8 x)) (by rw [Hlenk.out]; exact Hmm.out.symm) (fun _ => ⟨rfl, ⟨g, 0, none⟩, rfl, Hsrc.out _ hB⟩) (by rw [Hlenk.out]; have := Hk.out; have := HLl.out; omega) (fun v hv => by rw [List.eq_of_mem_replicate hv]; rfl) ?_; intro w4 hB4 hG4; rw [Hlenk.out])
        first | refine ⟨rfl, rfl, hend.out _ ?_, ?_⟩ | refine ⟨rfl, rfl, ⟨trivial, hend.out _ ?_⟩, ?_⟩
        · exact ⟨hgI.grown hG4.out (fun i hi => by cases hi; exact Hgl.out), fun h => by omega, fun _ => hB4.out⟩
        · rfl
      intro k1 a1 hk1 ha1
      simp only [Nat.reduceAdd] at hk1
      simp only [Act.put, List.setIfInBounds_toArray, List.set_cons_succ, List.set_cons_zero] at ha1
      subst hk1 ha1
      apply MonoJ.is0
      · kernel_rfl
      · intro L W hLk hsh hah hJ
        have hJ2 := lib_hid (chain_pure (k := 8) (w' := W) (by decide) (fun _ h => h) hJ)
        clear hJ hsh hah
        go_wp2
        refine ⟨rfl, rfl, ⟨trivial, hJ2.out⟩, ?_⟩
        unfold Oper.valAt
        go_simp
        rfl
      intro k1 a1 hk1 ha1
      simp only [Nat.reduceAdd] at hk1
      simp only [Act.put, List.setIfInBounds_toArray, List.set_cons_succ, List.set_cons_zero] at ha1
      subst hk1 ha1
      apply MonoJ.is0
      · kernel_rfl
      · intro L W hLk hsh hah hJ
        have hJ2 := lib_hid (chain_pure (k := 9) (w' := W) (by decide) (fun _ h => h) hJ)
        clear hJ hsh hah
        go_wp2
        refine ⟨rfl, rfl, ⟨trivial, hJ2.out⟩, ?_⟩
        unfold Oper.valAt
        go_simp
        rfl
      intro k1 a1 hk1 ha1
      simp only [Nat.reduceAdd] at hk1
      simp only [Act.put, List.setIfInBounds_toArray, List.set_cons_succ, List.set_cons_zero] at ha1
      subst hk1 ha1
      refine MonoJ.done ?_
      intro wm hJ
      obtain ⟨mj, hm, hI⟩ := chain_end (by decide) hJ
      clear hJ
      simp only [allF, List.drop_succ_cons, List.drop_nil]
      have hG : Grows w wm := hI.1
      have hB2 := lib_hid (hI.2.2 (by simpa using hm))
      go_wp2
      go_roundw
      case rel => exact ⟨k + mm, splice LV k (List.replicate mm (b8 x)), by have := Hk.out; omega, by go_num, hG, hB2, by unfold Hid; rw [spl_len (by have := Hk.out; have := HLl.out; simp; omega)]; exact HLl.out, splice_twoM HLt.out (by have := Hk.out; have := HLl.out; omega)⟩
      case measure => have := Hk.out; simp [intOf]; omega
    · have hki : ¬ (k : Int) < 4 := by omega
      have hk64 : k = 4 := by omega
      have HS : Hid (SB wr (some ⟨g, 0, none⟩) 4 4 (List.replicate 4 x)) := by
        rw [hk64] at HLt
        have h5 := HB.out.row (o := 0) (n := 4) (c := 4) (Nat.le_refl _) (by simpa using HLl.out) (by unfold maxLen; omega)
        have e : (LV.toArray.toList.drop 0).take 4 = (List.replicate 4 x).map b8 := by rw [List.drop_zero, List.map_replicate]; exact HLt.out
        rw [e] at h5
        exact h5
      clear HB HLl HLt hk hlt
      go_wp2
      go_ret
      exact ⟨g, rfl, hgr, HS.out⟩

end Go.Proofs.Ythcmdjaccjghjaa
