/-
  blocks, Order and its closures.
-/
import Derived.Test.YtnlffaglmcddkaaDoorBank4
import Derived.Test.YtnlffaglmcddkaaDoorSpan
import Derived.Lib.MinMax
import Derived.Deep.Cut
namespace Go.Proofs.YtnlffaglmcddkaaDoor
open Go Go.RowKit
set_option linter.unusedSimpArgs false
set_option linter.unusedVariables false


/-- A slice of numbers. -/
def IR (w : World) (A : Option Addr) (n c : Nat) (l : List Int) : Prop := Row w A n c (l.map iV)
theorem IR.grows {w w' : World} {A : Option Addr} {n c : Nat} {l : List Int} (h : IR w A n c l) (hg : Grows w w') : IR w' A n c l := Row.grows h hg
theorem IR.len {w : World} {A : Option Addr} {n c : Nat} {l : List Int} (h : IR w A n c l) : l.length = n := by have := Row.len h; simpa using this
theorem IR.at {w : World} {A : Option Addr} {n c : Nat} {l : List Int} (h : IR w A n c l) {k : Nat} (hk : k < n) : ∃ b off x, A = some ⟨b, off, none⟩ ∧ b < w.heap.size ∧ l[k]? = some x ∧ w.cell? ⟨b, off + k, none⟩ = some (iV x) := by
  have hl := h.len
  obtain ⟨b, off, e, hb, hc⟩ := h.2.2.2.2 (by omega)
  have hx : l[k]? = some (l[k]'(by omega)) := List.getElem?_eq_getElem _
  refine ⟨b, off, l[k]'(by omega), e, hb, hx, ?_⟩
  rw [hc k hk, List.getElem?_map, hx]
  rfl
theorem iV_one (l : List Int) : ∀ u ∈ l.map iV, u.oneCell' = true := by
  intro u hu
  obtain ⟨x, _, rfl⟩ := List.mem_map.1 hu
  rfl
theorem Tryd.infoInt : (Tryd.prog.info? 3).map (fun i => (i.zero, i.size, i.bytes)) = some (some (.int .i64 0), 1, 8) := by kernel_rfl

/-- How many blocks a message of so many bytes has. -/
def blkN (n : Nat) : Nat := (n + 72) / 64
theorem blkN_pos (n : Nat) : 1 ≤ blkN n := by unfold blkN; omega
set_option maxRecDepth 100000 in
set_option maxHeartbeats 4000000 in
theorem blocks_any (x : Int) (hx : -9223372036854775808 ≤ x ∧ x ≤ 1000000) (w : World) : Calls Tryd.prog 33 #[.int .i64 x] w fun e w' => e = .returned (.int .i64 (blkN x.toNat : Int)) ∧ Grows w w' := by
  obtain ⟨n, hn, Hn⟩ : ∃ n : Nat, max x 0 = (n : Int) ∧ Hid (x.toNat = n) := ⟨x.toNat, by omega, lib_hid rfl⟩
  have hnm : (n : Int) ≤ 1000000 := by have := Hn.out; omega
  obtain ⟨q, hq, hq2, Hq⟩ : ∃ q : Nat, (n : Int) / 64 = (q : Int) ∧ (n : Int).tdiv 64 = (q : Int) ∧ Hid (n / 64 = q) := ⟨n / 64, by omega, by rw [Int.tdiv_eq_ediv_of_nonneg (by omega)]; omega, lib_hid rfl⟩
  obtain ⟨r, hr, hr2, Hr⟩ : ∃ r : Nat, (n : Int) % 64 = (r : Int) ∧ (n : Int).tmod 64 = (r : Int) ∧ Hid (n % 64 = r) := ⟨n % 64, by omega, by rw [Int.tmod_eq_emod_of_nonneg (by omega)]; omega, lib_hid rfl⟩
  have hr64 : (r : Int) < 64 := by have := Hr.out; omega
  have hqm : (q : Int) ≤ 1000000 := by have := Hq.out; omega
  have hE : Hid (q + (r + 72) / 64 = blkN n) := by unfold Hid blkN; have := Hq.out; have := Hr.out; omega
  rw [Hn.out, ← hE.out]
  clear hx
  go_enter Tryd.func33, Tryd.ntmps33
  go_wp2
  go_ret
  refine ⟨congrArg (fun z => Ending.returned (Value.int .i64 z)) ?_, Grows.refl _⟩
  omega

set_option maxRecDepth 100000 in
set_option maxHeartbeats 4000000 in
theorem ordSize_any (l : List Int) (A : Option Addr) (n c bl k : Nat) (W : World) (hB : Blk W bl 27 #[.slice A n c]) (hl : IR W A n c l) (hk : k < n) (h5 : ∀ x ∈ l, -9223372036854775808 ≤ x ∧ x ≤ 5000) :
    Calls Tryd.prog 32 #[.int .i64 (k : Int), .pointer (some ⟨bl, 0, none⟩)] W fun e W' => e = .returned (.int .i64 (blkN (l.getD k 0).toNat : Int)) ∧ Grows W W' := by
  have c0 : W.cell? ⟨bl, 0, none⟩ = some (.slice A n c) := hB.cell 0
  obtain ⟨b, off, x, rfl, hb, hx, hc⟩ := hl.at hk
  have hx5 := h5 x (List.mem_of_getElem? hx)
  have hki : (k : Int) < (n : Int) := by omega
  have hnm : (n : Int) ≤ 9223372036854775807 := by have := hl.2.1; have := hl.2.2.1; unfold maxLen at this; omega
  have HC := lib_hid (blocks_any x (by omega) W)
  have e : l.getD k 0 = x := by rw [List.getD_eq_getElem?_getD, hx]; rfl
  rw [e]
  clear e hx hl hB h5 hx5 hb
  go_enter Tryd.func32, Tryd.ntmps32
  go_wp2_with fail
  refine HC.out.mono ?_
  rintro e w1 ⟨rfl, hg⟩
  go_wp2
  go_ret
  exact ⟨rfl, hg⟩
theorem set_same {α : Type} (L : List α) (i : Nat) (x : α) (h : L[i]? = some x) : L.set i x = L := by
  apply List.ext_getElem?
  intro j
  rw [List.getElem?_set]
  split
  · rename_i e
    subst e
    rw [if_pos (List.getElem?_eq_some_iff.1 h).1, h]
  · rfl
set_option maxRecDepth 100000 in
set_option maxHeartbeats 4000000 in
theorem ordBlock_any (a : Value) (W : World) : Calls Tryd.prog 34 #[a] W fun e W' => e = .returned (.tuple #[]) ∧ W = W' := by
  go_enter Tryd.func34, Tryd.ntmps34
  go_wp2
  go_end0
  exact ⟨rfl, rfl⟩
theorem ordDoes (B : Nat → Nat) (NN g : Nat) (k N : Int) (f : Value) (w : World) : DoesL (fun _ _ => startV) B NN g k N f 34 #[] w := by
  intro i n l L W hi hn h1 h2 hk hb hx
  refine (ordBlock_any _ W).mono ?_
  rintro e W' ⟨rfl, rfl⟩
  exact ⟨rfl, Keeps.refl _ _, by rw [set_same L i _ hx]; exact hb⟩
set_option maxRecDepth 100000 in
set_option maxHeartbeats 4000000 in
theorem ordDone_any (base b bo m n c : Nat) (h : V8) (lf : Int) (C : Option Addr) (ws : List Int) (W0 : World) (hBo : Blk W0 bo 27 #[.slice C n c]) (hO : OwnAt W0 base C n c (ws.map iV)) (hbl : Blk W0 b 53 (laneC ⟨(m : Int), h, lf⟩).toArray)
    (hne : blkOf C ≠ some bo) (hn : n ≤ 1000) (hbase : base ≤ W0.heap.size) :
    Calls Tryd.prog 35 #[.pointer (some ⟨b, 0, none⟩), .pointer (some ⟨bo, 0, none⟩)] W0 fun e W' => e = .returned (.tuple #[]) ∧ ∃ C' c', Blk W' bo 27 #[.slice C' (n + 1) c'] ∧ OwnAt W' base C' (n + 1) c' ((ws ++ [(m : Int)]).map iV) ∧ blkOf C' ≠ some bo ∧
      Keeps (fun x => x = bo ∨ blkOf C = some x) W0 W' ∧ (blkOf C' = blkOf C ∨ ∃ d, blkOf C' = some d ∧ W0.heap.size ≤ d) := by
  have HBo := lib_hid hBo
  have HO := lib_hid hO
  have HBx := lib_hid hbl
  clear hBo hO hbl
  go_enter Tryd.func35, Tryd.ntmps35
  apply wp_region_mono 6 ((.is _, []) :: (.is _, []) :: (.is _, []) :: (.is _, []) :: (.is _, []) :: (.pr (fun v W => ∃ g, v = .slice (some ⟨g, 0, none⟩) 1 1 ∧ Blk W g 3 #[iV (m : Int)]), []) :: []) (by kernel_rfl) (by kernel_rfl)
  apply Mono.is0
  · kernel_rfl
  · intro W hW
    have c0 := (HBo.out.grows hW).cell 0
    have c1 : W.cell? ⟨bo, 0, none⟩ = some (.slice C n c) := c0
    go_wp2
    refine ⟨rfl, rfl, Grows.refl _, ?_⟩
    unfold Oper.valAt
    go_simp
    rfl
  intro k1 a1 hk1 ha1
  simp only [Nat.reduceAdd] at hk1
  simp only [Act.put, List.setIfInBounds_toArray, List.set_cons_succ, List.set_cons_zero] at ha1
  subst hk1 ha1
  iterate 3
    apply Mono.is0
    · kernel_rfl
    · intro W hW
      go_wp2
      refine ⟨rfl, rfl, Grows.refl _, ?_⟩
      unfold Oper.valAt
      go_simp
      rfl
    intro k1 a1 hk1 ha1
    simp only [Nat.reduceAdd] at hk1
    simp only [Act.put, List.setIfInBounds_toArray, List.set_cons_succ, List.set_cons_zero] at ha1
    subst hk1 ha1
  apply Mono.is0
  · kernel_rfl
  · intro W hW
    have c0 : W.cell? ⟨b, 0, none⟩ = some (.int .i64 (m : Int)) := (HBx.out.grows hW).cell 0
    go_wp2
    refine ⟨rfl, rfl, Grows.refl _, ?_⟩
    unfold Oper.valAt
    go_simp
    rfl
  intro k1 a1 hk1 ha1
  simp only [Nat.reduceAdd] at hk1
  simp only [Act.put, List.setIfInBounds_toArray, List.set_cons_succ, List.set_cons_zero] at ha1
  subst hk1 ha1
  apply Mono.pr0
  · kernel_rfl
  · exact fun v W W' hW ⟨g, h1, h2⟩ => ⟨g, h1, h2.grows hW⟩
  · intro W hW 
    go_wp2
    exact ⟨rfl, rfl, (Grows.refl _).alloc _, _, rfl, Blk.new _ _ _⟩
  intro v5
  intro k1 a1 hk1 ha1
  simp only [Nat.reduceAdd] at hk1
  simp only [Act.put, List.setIfInBounds_toArray, List.set_cons_succ, List.set_cons_zero] at ha1
  subst hk1 ha1
  refine Mono.done ?_
  intro wm hgm
  simp only [allF, List.drop_succ_cons, List.drop_zero]
  intro g5
  obtain ⟨g1, rfl, hb1⟩ := g5
  have hOm := HO.out.grows hgm
  have hBm := HBo.out.grows hgm
  have hbm : base ≤ wm.heap.size := Nat.le_trans hbase hgm.le
  have hRw : Row wm (some ⟨g1, 0, none⟩) 1 1 [iV (m : Int)] := hb1.row (o := 0) (n := 1) (c := 1) (Nat.le_refl _) (by simp) (by decide)
  have HRw := lib_hid hRw
  have HOm := lib_hid hOm
  have HBm := lib_hid hBm
  have Hgm := lib_hid hgm
  clear hb1 hRw hOm hBm hgm HBo HO HBx
  refine wpList_append_at rfl _ _ 27 27 rfl base 3 (.int .i64 0) 8 Tryd.underlying27 Tryd.infoInt rfl C n c _ rfl HOm.out (.slice (some ⟨g1, 0, none⟩) 1 1) rfl 1 [iV (m : Int)] (Row.src HRw.out Tryd.underlying27 (iV_one [(m : Int)])) (by omega) (by omega) hbm ?_
  intro C2 c2 w2 hO2 hG2 hl2
  have hB2 := HBm.out.grown hG2 (fun e => hne e.symm)
  have c0 : w2.cell? ⟨bo, 0, none⟩ = some (.slice C n c) := hB2.cell 0
  have f0 := hB2.frozen 0
  have hz := hB2.lt
  have hC2 : blkOf C2 ≠ some bo := fun e => by
    rcases hl2 with h | h
    · exact hne (h.symm.trans e)
    · rw [h] at e; cases e; exact Nat.lt_irrefl _ HBm.out.lt
  have HB2 := lib_hid hB2
  have HO2 := lib_hid hO2
  have HG2 := lib_hid hG2
  have HC2 := lib_hid hC2
  have Hl2 := lib_hid hl2
  clear hB2 hO2 hG2 hC2 hl2 HBm HOm HRw
  go_wp2
  go_end0
  refine ⟨rfl, C2, c2, HB2.out.set 0 _, ?_, HC2.out, ?_, ?_⟩
  · rw [List.map_append]
    exact HO2.out.keeps (keeps_set _ _ _) (fun p hp e => HC2.out (by rw [hp]; exact congrArg some e))
  · exact ((Hgm.out.keeps _).trans (keeps_grown HG2.out) (fun i hi _ => Or.inr hi)).trans (keeps_set _ _ _) (fun i hi _ => Or.inl hi)
  · rcases Hl2.out with h | h
    · exact .inl h
    · exact .inr ⟨_, h, Hgm.out.le⟩

theorem blkOf_sub {A : Option Addr} {w : World} {base n c : Nat} {xs : List Value} (h : OwnAt w base A n c xs) : ∀ b, blkOf A = some b → base ≤ b ∧ b < w.heap.size := fun b hb => by
  obtain ⟨p, hp, rfl⟩ := Option.map_eq_some_iff.1 hb
  exact ⟨h.base_le p hp, h.lt p hp⟩
/-- What holds while Order runs. -/
def OrdJ (w : World) (A : Option Addr) (n c bl bo g : Nat) (ws : List Nat) (own : Nat → Prop) (W : World) : Prop :=
  Grows w W ∧ g < W.heap.size ∧ Blk W bl 27 #[.slice A n c] ∧ ∃ C c', Blk W bo 27 #[.slice C ws.length c'] ∧ OwnAt W (w.heap.size + 2) C ws.length c' ((ws.map fun (x : Nat) => (x : Int)).map iV) ∧ blkOf C ≠ some g ∧ own = fun b => b = bo ∨ blkOf C = some b
def blkL (l : List Int) (k : Nat) : Nat := blkN (l.getD k 0).toNat
theorem ord_J (w : World) (l : List Int) (A : Option Addr) (n c g : Nat) (hl : IR w A n c l) (hn : n ≤ 100) (h5 : ∀ x ∈ l, -9223372036854775808 ≤ x ∧ x ≤ 5000) (hg : w.heap.size + 2 ≤ g) :
    RunJ (fun _ _ => startV) (blkL l) n g 32 34 35 #[.pointer (some ⟨w.heap.size, 0, none⟩)] #[] #[.pointer (some ⟨w.heap.size + 1, 0, none⟩)] (OrdJ w A n c w.heap.size (w.heap.size + 1) g) where
  lt := by
    rintro ws own W ⟨hG, hgW, hBl, C, c', hBo, hO, hCg, rfl⟩
    have hb := blkOf_sub hO
    refine ⟨fun b h => ?_, fun h => ?_⟩
    · rcases h with rfl | h
      · exact hBo.lt
      · exact (hb b h).2
    · rcases h with h | h
      · omega
      · exact hCg h
  keep := by
    rintro ws own W W' ⟨hG, hgW, hBl, C, c', hBo, hO, hCg, rfl⟩ hk
    refine ⟨below_trans hG (hk.below hG.le (fun i hi => by omega)), Nat.lt_of_lt_of_le hgW hk.size, hBl.keeps hk (by omega), C, c', hBo.keeps hk (by omega), hO.keeps hk (fun p hp e => hCg (by rw [hp]; exact congrArg some e)), hCg, rfl⟩
  size := by
    rintro ws own W k ⟨hG, hgW, hBl, _⟩ hk
    exact ordSize_any l A n c w.heap.size k W hBl (hl.grows hG) hk h5
  block := by
    intro ws own W k _
    exact ordDoes _ _ _ _ _ _ _
  done := by
    rintro ws own W m b ⟨hG, hgW, hBl, C, c', hBo, hO, hCg, rfl⟩ hm hws hb hbl
    have hcb := blkOf_sub hO
    have hs : w.heap.size + 1 < W.heap.size := hBo.lt
    refine (ordDone_any (w.heap.size + 2) b (w.heap.size + 1) m ws.length c' startV 0 C (ws.map fun (x : Nat) => (x : Int)) W hBo hO hbl (fun e => by have := (hcb _ e).1; omega) (by omega) (by omega)).mono ?_
    rintro e W' ⟨rfl, C2, c2, q1, q2, q3, q4, q5⟩
    refine ⟨rfl, q4, fun b => b = w.heap.size + 1 ∨ blkOf C2 = some b, ⟨below_trans hG (q4.below hG.le (fun i hi => ?_)), Nat.lt_of_lt_of_le hgW q4.size, hBl.keeps q4 (fun h => ?_), C2, c2, ?_, ?_, fun e => ?_, rfl⟩, fun b hb => ?_⟩
    · rcases hi with rfl | hi
      · omega
      · have := (hcb i hi).1; omega
    · rcases h with h | h
      · omega
      · have := (hcb _ h).1; omega
    · rw [List.length_append]; exact q1
    · rw [List.length_append, List.map_append]; exact q2
    · rcases q5 with h | ⟨d, h, hd⟩
      · exact hCg (h.symm.trans e)
      · rw [h] at e; cases e; omega
    · rcases hb with hb | hb
      · exact .inl (.inl hb)
      · rcases q5 with h | ⟨d, h, hd⟩
        · exact .inl (.inr (h.symm.trans hb))
        · exact .inr (by rw [h] at hb; cases hb; exact hd)
end Go.Proofs.YtnlffaglmcddkaaDoor
