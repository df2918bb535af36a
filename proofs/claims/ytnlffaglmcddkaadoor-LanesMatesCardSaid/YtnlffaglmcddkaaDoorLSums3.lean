/-
  lanes.Sums.
-/
import Derived.Test.YtnlffaglmcddkaaDoorLSums2
import Derived.Deep.Cut
namespace Go.Proofs.YtnlffaglmcddkaaDoor
open Go Go.RowKit
set_option linter.unusedSimpArgs false
set_option linter.unusedVariables false


theorem two_rows (W : World) (t : TypeId) {A B : Option Addr} {n m c d : Nat} {xs ys : List UInt8} (h1 : SB W A n c xs) (h2 : SB W B m d ys) : RowsB (W.alloc (.cells #[.slice A n c, .slice B m d] t)) (some ⟨W.heap.size, 0, none⟩) 2 2 [xs, ys] := by
  have hB := Blk.new W t #[.slice A n c, .slice B m d]
  have hg : Grows W (W.alloc (.cells #[.slice A n c, .slice B m d] t)) := (Grows.refl W).alloc _
  refine ⟨rfl, Nat.le_refl _, by decide, fun e => (by cases e), fun _ => ⟨_, _, rfl, hB.lt, fun i hi => ?_⟩⟩
  have l1 := h1.len
  have l2 := h2.len
  rcases (show i = 0 ∨ i = 1 by omega) with rfl | rfl
  · refine ⟨A, c, ?_, ?_⟩
    · rw [hB.cell]; show some (Value.slice A n c) = some (Value.slice A xs.length c); rw [l1]
    · show SB _ A xs.length c xs; rw [l1]; exact h1.grows hg
  · refine ⟨B, d, ?_, ?_⟩
    · rw [hB.cell]; show some (Value.slice B m d) = some (Value.slice B ys.length d); rw [l2]
    · show SB _ B ys.length d ys; rw [l2]; exact h2.grows hg
theorem RowsO.push {base : Nat} {W W' : World} {P P' : Option Addr} {k cp c' n cc : Nat} {A : Option Addr} {ps : List (List UInt8)} {bs : List UInt8} {vs : List Value}
    (h1 : ps.length = k) (h2 : W.ownsRow base 28 1 (.slice P k cp) k vs) (h3 : ∀ (i : Nat) (bs : List UInt8), ps[i]? = some bs → ∃ Ai ci, vs[i]? = some (.slice Ai bs.length ci) ∧ W.ownsRow base 5 1 (.slice Ai bs.length ci) bs.length (bs.map b8))
    (hn : n = bs.length) (h4 : W.ownsRow base 5 1 (.slice A n cc) n (bs.map b8)) (ho : W'.ownsRow base 28 1 (.slice P' (k + 1) c') (k + 1) (vs ++ [.slice A n cc])) (hg : W.grownBy W' (blkOf P)) : RowsO base W' P' (k + 1) c' (ps ++ [bs]) := by
  have hvl : vs.length = k := by have := h2.1; omega
  have key : ∀ {v : Value} {m : Nat} {xs : List Value}, W.ownsRow base 5 1 v m xs → W'.ownsRow base 5 1 v m xs := by
    intro v m xs ⟨a1, a2⟩
    refine ⟨a1, ?_⟩
    rcases a2 with a2 | ⟨g, cap, cur, hv, hb, hh, r⟩
    · exact Or.inl a2
    · refine Or.inr ⟨g, cap, cur, hv, hb, (show Blk W g 5 cur from hh).grown hg (fun e => ?_), r⟩
      obtain ⟨_, b2⟩ := h2
      rcases b2 with ⟨hv2, _⟩ | ⟨g2, cap2, cur2, hv2, hb2, hh2, _⟩
      · cases hv2; cases e
      · cases hv2
        cases e
        rw [hh] at hh2
        simp at hh2
  refine ⟨by simp [h1], _, ho, fun i b hi => ?_⟩
  by_cases hik : i < k
  · rw [List.getElem?_append_left (by omega)] at hi
    obtain ⟨Ai, ci, a, b⟩ := h3 i b hi
    exact ⟨Ai, ci, by rw [List.getElem?_append_left (by omega)]; exact a, key b⟩
  · rw [List.getElem?_append_right (by omega)] at hi
    have hi0 : i - ps.length = 0 := by
      rcases Nat.eq_zero_or_pos (i - ps.length) with h | h
      · exact h
      · rw [List.getElem?_eq_none (by simp; omega)] at hi; cases hi
    rw [hi0] at hi
    obtain rfl := Option.some.inj hi
    refine ⟨A, cc, ?_, by rw [← hn]; exact key h4⟩
    rw [List.getElem?_append_right (by omega), show i - vs.length = 0 by omega, ← hn]
    rfl
theorem _root_.Go.World.grownBy.grows0 {w w' : World} (h : w.grownBy w' none) : Grows w w' := (keeps_grown h).below (Nat.le_refl _) (fun i hi => by cases hi)
theorem full_row {w : World} {base g n : Nat} {t : TypeId} {xs : List Value} (h : w.ownsRow base t 32 (.slice (some ⟨g, 0, none⟩) n n) n xs) : Blk w g t xs.toArray := by
  obtain ⟨h1, h2⟩ := h
  rcases h2 with ⟨hv, _⟩ | ⟨g2, cap, cur, hv, hb, hh, _, _, hcs, htk⟩
  · cases hv
  · cases hv
    have e : cur.toList = xs := by rw [← htk, List.take_of_length_le (by rw [Array.length_toList]; omega)]
    rw [← e, Array.toArray_toList]
    exact hh
theorem zeros32 (n : Nat) : (madeCells #[.int .u8 0, .int .u8 0, .int .u8 0, .int .u8 0, .int .u8 0, .int .u8 0, .int .u8 0, .int .u8 0, .int .u8 0, .int .u8 0, .int .u8 0, .int .u8 0, .int .u8 0, .int .u8 0, .int .u8 0, .int .u8 0, .int .u8 0, .int .u8 0, .int .u8 0, .int .u8 0, .int .u8 0, .int .u8 0, .int .u8 0, .int .u8 0, .int .u8 0, .int .u8 0, .int .u8 0, .int .u8 0, .int .u8 0, .int .u8 0, .int .u8 0, .int .u8 0] (n * 32)).toList = (flatB (List.replicate n (List.replicate 32 0))).map b8 := by
  have e : ∀ m, flatB (List.replicate m (List.replicate 32 0)) = List.replicate (m * 32) 0 := fun m => by
    induction m with
    | zero => rfl
    | succ m ih => rw [List.replicate_succ, flatB, ih, List.replicate_append_replicate, show 32 + m * 32 = (m + 1) * 32 by omega]
  rw [e, List.map_replicate]
  apply List.ext_getElem?
  intro j
  by_cases hj : j < n * 32
  · rw [List.getElem?_replicate, if_pos hj]
    have hjm : j % 32 < 32 := Nat.mod_lt _ (by omega)
    simp only [madeCells, Array.toList_map, Array.toList_range, List.getElem?_map, List.getElem?_range hj, Option.map_some]
    congr 1
    have e : (#[.int .u8 0, .int .u8 0, .int .u8 0, .int .u8 0, .int .u8 0, .int .u8 0, .int .u8 0, .int .u8 0, .int .u8 0, .int .u8 0, .int .u8 0, .int .u8 0, .int .u8 0, .int .u8 0, .int .u8 0, .int .u8 0, .int .u8 0, .int .u8 0, .int .u8 0, .int .u8 0, .int .u8 0, .int .u8 0, .int .u8 0, .int .u8 0, .int .u8 0, .int .u8 0, .int .u8 0, .int .u8 0, .int .u8 0, .int .u8 0, .int .u8 0, .int .u8 0] : Array Value) = Array.replicate 32 (.int .u8 0) := rfl
    rw [e, Array.size_replicate, getElem!_pos _ _ (by rw [Array.size_replicate]; exact hjm), Array.getElem_replicate]
    rfl
  · rw [List.getElem?_eq_none (by simp [madeCells]; omega), List.getElem?_eq_none (by simp; omega)]
set_option maxRecDepth 100000 in
set_option maxHeartbeats 4000000 in
theorem sums_any {tK : TypeId} (ks : List UInt32) (hkl : ks.length = 64) (ls : List (List UInt8)) (A : Option Addr) (n c : Nat) (w : World) (HK : Hid (Blk w 0 tK (ks.map b32).toArray)) (hs : RowsB w A n c ls) (hn : n ≤ 100) (h4 : ∀ b ∈ ls, b.length ≤ 400) :
    Calls Tryd.prog 10 #[.slice A n c] w fun e w' => ∃ go, e = .returned (.tuple #[.slice (some ⟨go, 0, none⟩) n n, .int .i64 (maxF (blkL (lensL ls)) n : Int)]) ∧ Grows w w' ∧ w.heap.size ≤ go ∧ Blk w' go 32 ((flatB (ls.map (sumS ks))).map b8).toArray := by
  have HS := lib_hid hs
  have Hll := lib_hid hs.1
  have hcap := hs.2.2.1
  unfold maxLen at hcap
  have hnc := hs.2.1
  have H4 := lib_hid h4
  have Hn := lib_hid hn
  have hnm : (n : Int) ≤ 100 := by omega
  have Hkl := lib_hid hkl
  obtain ⟨i0, hi0, hz0, hsz0, hb0⟩ := info_parts Tryd.infoA32
  obtain ⟨T, HT⟩ : ∃ T, Hid (maxF (blkL (lensL ls)) n = T) := ⟨_, lib_hid rfl⟩
  have hTb : T ≤ 1000000000 := by
    have := maxF_bound (blkL (lensL ls)) 80 (blkL_le (lensL ls) (lens_le ls h4)) n
    rw [HT.out] at this
    omega
  have HTb := lib_hid hTb
  rw [HT.out]
  clear hs h4 hkl hTb
  go_enter Tryd.func10, Tryd.ntmps10
  go_upto_region 2 with (refine wpList_make_full w rfl _ _ 24 rfl w.heap.size 32 i0 _ 32 Tryd.underlying24 hi0 hz0 hsz0 .i64 .i64 (n : Int) (n : Int) n rfl rfl rfl rfl (by rw [hb0]; omega) (by unfold maxLen; omega) (Nat.le_refl _) ?_; intro w1 ho1 hg1)
  have hgo1 : Blk w1 w.heap.size 32 ((flatB (List.replicate n (List.replicate 32 0))).map b8).toArray := by
    have h := full_row ho1
    rw [show (Value.agg #[.int .u8 0, .int .u8 0, .int .u8 0, .int .u8 0, .int .u8 0, .int .u8 0, .int .u8 0, .int .u8 0, .int .u8 0, .int .u8 0, .int .u8 0, .int .u8 0, .int .u8 0, .int .u8 0, .int .u8 0, .int .u8 0, .int .u8 0, .int .u8 0, .int .u8 0, .int .u8 0, .int .u8 0, .int .u8 0, .int .u8 0, .int .u8 0, .int .u8 0, .int .u8 0, .int .u8 0, .int .u8 0, .int .u8 0, .int .u8 0, .int .u8 0, .int .u8 0]).cells = #[.int .u8 0, .int .u8 0, .int .u8 0, .int .u8 0, .int .u8 0, .int .u8 0, .int .u8 0, .int .u8 0, .int .u8 0, .int .u8 0, .int .u8 0, .int .u8 0, .int .u8 0, .int .u8 0, .int .u8 0, .int .u8 0, .int .u8 0, .int .u8 0, .int .u8 0, .int .u8 0, .int .u8 0, .int .u8 0, .int .u8 0, .int .u8 0, .int .u8 0, .int .u8 0, .int .u8 0, .int .u8 0, .int .u8 0, .int .u8 0, .int .u8 0, .int .u8 0] from rfl, zeros32] at h
    exact h
  have hGw1 : Grows w w1 := hg1.grows0
  have hgob : w.heap.size < w1.heap.size := hgo1.lt
  obtain ⟨W2, HW2, hW2, hg2⟩ : ∃ W2 : World, Hid (W2 = (w1.alloc (.cells #[.slice (some ⟨w.heap.size, 0, none⟩) n n] 24)).alloc (.cells #[.slice none 0 0] 22)) ∧ W2.heap.size = w1.heap.size + 2 ∧ Grows w1 W2 := ⟨_, lib_hid rfl, by simp, ((Grows.refl _).alloc _).alloc _⟩
  have HBo : Hid (Blk W2 w1.heap.size 24 #[.slice (some ⟨w.heap.size, 0, none⟩) n n]) := by
    unfold Hid; rw [HW2.out]; have := (Blk.new w1 24 #[.slice (some ⟨w.heap.size, 0, none⟩) n n]).alloc (.cells #[.slice none 0 0] 22); simpa using this
  have HBp0 : Hid (Blk W2 (w1.heap.size + 1) 22 #[.slice none 0 0]) := by
    unfold Hid; rw [HW2.out]; have := Blk.new (w1.alloc (.cells #[.slice (some ⟨w.heap.size, 0, none⟩) n n] 24)) 22 #[.slice none 0 0]; simpa using this
  have HGo := lib_hid (hgo1.grows hg2)
  have HGw := lib_hid (hGw1.trans hg2)
  have HWs := lib_hid hW2
  have Hgob := lib_hid hgob
  clear ho1 hg1 hgo1 hGw1 hg2 hW2 hgob hi0 hz0 hsz0 hb0
  go_upto_region 3 with fail
  rw [← HW2.out]
  obtain ⟨bo, Hbo⟩ : ∃ bo, Hid (w1.heap.size = bo) := ⟨_, lib_hid rfl⟩
  obtain ⟨bp, Hbp⟩ : ∃ bp, Hid (bo + 1 = bp) := ⟨_, lib_hid rfl⟩
  obtain ⟨base, Hbase⟩ : ∃ base, Hid (bo + 2 = base) := ⟨_, lib_hid rfl⟩
  rw [Hbo.out, Hbp.out] at HBp0
  rw [Hbo.out] at HBo Hgob HWs ⊢
  rw [Hbp.out]
  rw [Hbase.out] at HWs
  go_wp2
  go_loopw [15] (fun i wr => ∃ (k : Nat) (P : Option Addr) (cp : Nat), k ≤ n ∧ i = .int .i64 (k : Int) ∧ Hid (Keeps (fun b => b = bp) W2 wr) ∧ Hid (Blk wr bp 22 #[.slice P k cp]) ∧ Hid (RowsO base wr P k cp ((ls.take k).map padB))) (fun i _ => n - (intOf i).toNat)
  case atStart => exact ⟨0, none, 0, Nat.zero_le _, rfl, lib_hid (Keeps.refl _ _), HBp0, lib_hid ⟨rfl, [], World.ownsRow_nil _ _ _ _, fun i bs h => (by cases h)⟩⟩
  case round =>
    obtain ⟨k, P, cp, hk, rfl, HKr, HBp, HR⟩ := hrel
    have hgr : Grows w wr := below_trans HGw.out (HKr.out.below HGw.out.le (fun i hi => by have := Hgob.out; have := Hbp.out; omega))
    have Hle : Hid (base ≤ wr.heap.size) := by unfold Hid; rw [← HWs.out]; exact HKr.out.size
    by_cases hlt : k < n
    · have hki : (k : Int) < (n : Int) := by omega
      obtain ⟨b, off, rfl, hb, hc⟩ := HS.out.2.2.2.2 (by omega)
      obtain ⟨Ai, ci, h1, h2⟩ := hc k hlt
      obtain ⟨bs, Hbs⟩ : ∃ bs, Hid (ls.getD k [] = bs) := ⟨_, lib_hid rfl⟩
      rw [Hbs.out] at h1 h2
      obtain ⟨m, Hm⟩ : ∃ m, Hid (bs.length = m) := ⟨_, lib_hid rfl⟩
      rw [Hm.out] at h1 h2
      have hbm : bs ∈ ls := by
        rw [← Hbs.out, List.getD_eq_getElem?_getD, List.getElem?_eq_getElem (by rw [Hll.out]; exact hlt)]
        exact List.getElem_mem _
      have hm4 : m ≤ 400 := by rw [← Hm.out]; exact H4.out bs hbm
      have c1 := (hgr.cell (p := ⟨b, off + k, none⟩) hb).trans h1
      have HSb : Hid (∀ W, Grows w W → SB W Ai m ci bs) := fun W hW => h2.grows hW
      have HPd : Hid (∀ W, Calls Tryd.prog 14 #[.int .i64 (m : Int)] W (NewB 5 W (padS m))) := fun W => pad_any m (by omega) W
      have HCo : Hid (∀ (g1 : Nat) (W : World), RowsB W (some ⟨g1, 0, none⟩) 2 2 [bs, padS m] → Calls Tryd.prog 18 #[.slice (some ⟨g1, 0, none⟩) 2 2] W (NewB 5 W (padB bs))) := fun g1 W hW => by
        have e : flatB [bs, padS m] = padB bs := by
          show bs ++ (padS m ++ []) = _
          rw [List.append_nil, padB, Hm.out]
        have h := concat_any [bs, padS m] (some ⟨g1, 0, none⟩) 2 2 W hW (by omega) (by rw [e, padB_len, Hm.out]; unfold blkN; omega)
        rw [e] at h
        exact h
      have Hst : Hid ((ls.take (k + 1)).map padB = (ls.take k).map padB ++ [padB bs]) := by
        unfold Hid
        rw [List.take_add_one, ← Hbs.out, List.getD_eq_getElem?_getD, List.getElem?_eq_getElem (by rw [Hll.out]; exact hlt), List.map_append]
        rfl
      clear hc h1 h2 hb hbm
      go_upto_region 6 with fail
      clear hki
      apply wp_region_mono 8 ((.is _, []) :: (.is _, []) :: (.is _, []) :: (.is _, []) :: (.pr (fun v W => ∃ A1 n1 c1, v = .slice A1 n1 c1 ∧ SB W A1 n1 c1 (padS m)), []) :: (.pr (fun v W => ∃ g, v = .slice (some ⟨g, 0, none⟩) 2 2 ∧ RowsB W (some ⟨g, 0, none⟩) 2 2 [bs, padS m]), [4]) :: (.pr (fun v W => ∃ A1 n1 c1, v = .slice A1 n1 c1 ∧ Hid (n1 = (padB bs).length) ∧ W.ownsRow base 5 1 (.slice A1 n1 c1) n1 ((padB bs).map b8)), [5]) :: (.pr (fun v W => ∃ g A1 n1 c1, v = .slice (some ⟨g, 0, none⟩) 1 1 ∧ Blk W g 28 #[.slice A1 n1 c1] ∧ Hid (n1 = (padB bs).length) ∧ W.ownsRow base 5 1 (.slice A1 n1 c1) n1 ((padB bs).map b8)), [6]) :: []) (by kernel_rfl) (by kernel_rfl)
      apply Mono.is0
      · kernel_rfl
      · intro W hW
        have c0 : W.cell? ⟨bp, 0, none⟩ = some (.slice P k cp) := (HBp.out.grows hW).cell 0
        go_wp2
        refine ⟨rfl, rfl, Grows.refl _, ?_⟩
        unfold Oper.valAt
        go_simp
        rfl
      intro k1 a1 hk1 ha1
      simp only [Nat.reduceAdd] at hk1
      simp only [Act.put, List.setIfInBounds_toArray, List.set_cons_succ, List.set_cons_zero] at ha1
      subst hk1 ha1
      iterate 3
        apply Mono.is0
        · kernel_rfl
        · intro W hW
          go_wp2
          refine ⟨rfl, rfl, Grows.refl _, ?_⟩
          unfold Oper.valAt
          go_simp
          rfl
        intro k1 a1 hk1 ha1
        simp only [Nat.reduceAdd] at hk1
        simp only [Act.put, List.setIfInBounds_toArray, List.set_cons_succ, List.set_cons_zero] at ha1
        subst hk1 ha1
      apply Mono.pr0
      · kernel_rfl
      · exact fun v W W' hW ⟨A1, n1, c1, h1, h2⟩ => ⟨A1, n1, c1, h1, h2.grows hW⟩
      · intro W hW 
        go_wp2_with fail
        refine (HPd.out W).mono ?_
        rintro e w1 ⟨A1, n1, c1, hn1, rfl, hg1, ho1⟩
        go_wp2
        exact ⟨rfl, rfl, hg1, A1, n1, c1, rfl, SB.own ho1⟩
      intro v4
      intro k1 a1 hk1 ha1
      simp only [Nat.reduceAdd] at hk1
      simp only [Act.put, List.setIfInBounds_toArray, List.set_cons_succ, List.set_cons_zero] at ha1
      subst hk1 ha1
      apply Mono.pr1
      · kernel_rfl
      · exact fun v W W' hW ⟨g, h1, h2⟩ => ⟨g, h1, h2.grows hW⟩
      · intro W hW f0
        obtain ⟨A1, n1, c1, rfl, s1⟩ := f0
        have S1 := lib_hid s1
        clear s1
        go_wp2
        exact ⟨rfl, rfl, (Grows.refl _).alloc _, _, rfl, two_rows W 28 (HSb.out W (hgr.trans hW)) S1.out⟩
      intro v5
      intro k1 a1 hk1 ha1
      simp only [Nat.reduceAdd] at hk1
      simp only [Act.put, List.setIfInBounds_toArray, List.set_cons_succ, List.set_cons_zero] at ha1
      subst hk1 ha1
      apply Mono.pr1
      · kernel_rfl
      · exact fun v W W' hW ⟨A1, n1, c1, h1, h2, h3⟩ => ⟨A1, n1, c1, h1, h2, own_grows h3 hW⟩
      · intro W hW f0
        obtain ⟨g1, rfl, s1⟩ := f0
        have S1 := lib_hid s1
        have hle := Nat.le_trans Hle.out hW.le
        clear s1
        go_wp2_with fail
        refine (HCo.out g1 W S1.out).mono ?_
        rintro e w1 ⟨A1, n1, c1, hn1, rfl, hg1, ho1⟩
        have HO1 := lib_hid (own_base ho1 hle)
        have HN1 := lib_hid hn1
        clear ho1 hn1
        go_wp2
        exact ⟨rfl, rfl, hg1, A1, n1, c1, rfl, HN1, HO1.out⟩
      intro v6
      intro k1 a1 hk1 ha1
      simp only [Nat.reduceAdd] at hk1
      simp only [Act.put, List.setIfInBounds_toArray, List.set_cons_succ, List.set_cons_zero] at ha1
      subst hk1 ha1
      apply Mono.pr1
      · kernel_rfl
      · exact fun v W W' hW ⟨g, A1, n1, c1, h1, h2, h3, h4⟩ => ⟨g, A1, n1, c1, h1, h2.grows hW, h3, own_grows h4 hW⟩
      · intro W hW f0
        obtain ⟨A1, n1, c1, rfl, hn1, ho1⟩ := f0
        have HO1 := lib_hid ho1
        have HN1 := lib_hid hn1
        clear ho1 hn1
        go_wp2
        exact ⟨rfl, rfl, (Grows.refl _).alloc _, _, A1, n1, c1, rfl, Blk.new _ _ _, HN1.out, own_grows HO1.out ((Grows.refl _).alloc _)⟩
      intro v7
      intro k1 a1 hk1 ha1
      simp only [Nat.reduceAdd] at hk1
      simp only [Act.put, List.setIfInBounds_toArray, List.set_cons_succ, List.set_cons_zero] at ha1
      subst hk1 ha1
      refine Mono.done ?_
      intro wm hgm
      simp only [allF, List.drop_succ_cons, List.drop_zero]
      intro g7 g6 g5 g4
      obtain ⟨g1, A1, n1, c1', rfl, hb1, hn1, ho1⟩ := g7
      clear g4 g5 g6
      obtain ⟨q1, vs, q2, q3⟩ := HR.out.grows hgm
      have Q1 := lib_hid q1
      have Q2 := lib_hid q2
      have Q3 := lib_hid q3
      have HO1 := lib_hid ho1
      have HRw : Hid (Row wm (some ⟨g1, 0, none⟩) 1 1 [.slice A1 n1 c1']) := lib_hid (hb1.row (o := 0) (n := 1) (c := 1) (Nat.le_refl _) (by simp) (by decide))
      have hbw : base ≤ wm.heap.size := Nat.le_trans Hle.out hgm.le
      have HBm := lib_hid (HBp.out.grows hgm)
      have Hgm := lib_hid hgm
      have Hown : Hid (∀ b, blkOf P = some b → base ≤ b) := fun b hb => (own_lt q2 b hb).1
      have hPb : blkOf P ≠ some bp := fun e => by have := Hown.out bp e; have := Hbp.out; have := Hbase.out; omega
      clear q1 q2 q3 ho1 hb1 hgm HCo HPd HSb HBp HR c1
      refine wpList_append2 rfl _ _ 22 rfl base 28 (.slice none 0 0) 24 Tryd.underlying22 Tryd.infoT rfl P cp k vs rfl Q2.out (some ⟨g1, 0, none⟩) 1 1 [.slice A1 n1 c1'] rfl HRw.out (by intro u hu; rw [List.mem_singleton.1 hu]; rfl) (by omega) (by omega) hbw ?_
      intro P2 c2 w2 hO2 hG2 hl2
      have hB2 := HBm.out.grown hG2 (fun e => hPb e.symm)
      have c0 : w2.cell? ⟨bp, 0, none⟩ = some (.slice P k cp) := hB2.cell 0
      have f0 := hB2.frozen 0
      have hz := hB2.lt
      have HB2 := lib_hid hB2
      have HR2 : Hid (RowsO base w2 P2 (k + 1) c2 ((ls.take k).map padB ++ [padB bs])) := lib_hid (RowsO.push Q1.out Q2.out Q3.out hn1.out HO1.out hO2 hG2)
      have HK2 : Hid (Keeps (fun b => b = bp) W2 w2) := lib_hid ((HKr.out.trans (Hgm.out.keeps (fun b => b = bp)) (fun _ h _ => h)).trans (keeps_grown hG2) (fun i hi hlt => by have := Hown.out i hi; have := HWs.out; omega))
      clear hB2 hO2 hG2 hl2 Q1 Q2 Q3 HO1 HRw HBm HKr Hgm hPb
      go_upto_region 7 with fail
      obtain ⟨w3, Hw3⟩ : ∃ w3 : World, Hid (w3 = w2.setCell ⟨bp, 0, none⟩ (.slice P2 (k + 1) c2)) := ⟨_, lib_hid rfl⟩
      rw [← Hw3.out]
      have HB3 : Hid (Blk w3 bp 22 #[.slice P2 (k + 1) c2]) := by unfold Hid; rw [Hw3.out]; exact HB2.out.set 0 _
      have HK3 : Hid (Keeps (fun b => b = bp) W2 w3) := by unfold Hid; rw [Hw3.out]; exact HK2.out.trans (keeps_set _ _ _) (fun _ h _ => h)
      have HR3 : Hid (RowsO base w3 P2 (k + 1) c2 ((ls.take (k + 1)).map padB)) := by unfold Hid; rw [Hw3.out, Hst.out]; exact HR2.out.keeps (keeps_set w2 ⟨bp, 0, none⟩ (.slice P2 (k + 1) c2)) (fun b hb _ e => by simp only at e; have := Hbp.out; have := Hbase.out; omega)
      clear HB2 HR2 HK2 c0 f0 hz Hw3
      go_wp2
      go_roundw
      case rel => exact ⟨k + 1, P2, c2, by omega, by go_num, HK3, HB3, HR3⟩
      case measure => simp [intOf]; omega
    · have hki : ¬ (k : Int) < (n : Int) := by omega
      obtain rfl : k = n := by omega
      have HR2 : Hid (RowsO base wr P k cp (ls.map padB)) := by
        have h := HR.out
        rw [List.take_of_length_le (by rw [Hll.out]; exact Nat.le_refl _)] at h
        exact h
      have HGo2 : Hid (Blk wr w.heap.size 32 ((flatB (List.replicate k (List.replicate 32 0))).map b8).toArray) := lib_hid (HGo.out.keeps HKr.out (fun e => by have := Hgob.out; have := Hbp.out; omega))
      have HBo2 : Hid (Blk wr bo 24 #[.slice (some ⟨w.heap.size, 0, none⟩) k k]) := lib_hid (HBo.out.keeps HKr.out (fun e => by have := Hbp.out; omega))
      have Hgr := lib_hid hgr
      have HN := lib_hid (none_any (k : Int) 20 #[.pointer (some ⟨bp, 0, none⟩)] wr)
      have Hpos : Hid (0 < w.heap.size) := by unfold Hid; have := HK.out.lt; omega
      clear HR HGo HBo hgr HBp0 HKr
      go_wp2_with fail
      refine HN.out.mono ?_
      rintro e w3 ⟨g, rfl, hge, hglt, hg1, L, hb, hln⟩
      have HJ0 : Hid (SumJ ks ls wr k w.heap.size bo g [] (fun b => b = w.heap.size) w3) := lib_hid ⟨hg1.keeps _, hglt, HBo2.out.grows hg1, rfl, List.replicate k (List.replicate 32 0), HGo2.out.grows hg1, by simp, fun o ho => by rw [(List.mem_replicate.1 ho).2]; simp, fun m h => (by cases h)⟩
      have HRn := lib_hid (run_any (laneH ks ls) (blkL (lensL ls)) k g 20 22 24 #[.pointer (some ⟨bp, 0, none⟩)] #[.pointer (some ⟨bp, 0, none⟩)] #[.pointer (some ⟨bo, 0, none⟩)] (SumJ ks ls wr k w.heap.size bo g) w3
        (sum_J ks Hkl.out ls wr k cp w.heap.size bo bp base g P Hll.out Hn.out H4.out (lib_hid (HK.out.grows Hgr.out)) HBp.out HR2.out Hpos.out Hgob.out (by have := Hgob.out; have := Hbp.out; omega) (by have := Hbase.out; omega) (by have := Hbase.out; have := Hbp.out; omega) Hle.out hge) (blkL_pos _) (fun m => by have := blkL_le (lensL ls) (lens_le ls H4.out) m; omega) (by have := Hn.out; omega) (by rw [HT.out]; exact HTb.out) (fun m _ => laneH_full ks ls m)
        (fun args W => by kernel_rfl) (fun args W => by kernel_rfl) (fun args W => by kernel_rfl) (ord_start _ _ _ _ _ _ _ L _ HJ0.out hb hln))
      rw [HT.out] at HRn
      clear hge hglt hg1 hb hln HN HJ0 HBo2 HGo2 HBp HR2
      go_wp2_with fail
      refine HRn.out.mono ?_
      rintro e w4 ⟨rfl, own, hk4, hgW, hBo4, _, os, o1, o2, o3, o4⟩
      have hos : os = ls.map (sumS ks) := by
        apply List.ext_getElem?
        intro m
        by_cases hm : m < k
        · rw [o4 m (by rw [← HT.out]; exact (ord_mem (blkL (lensL ls)) (blkL_pos _) k m).2 hm), List.getElem?_map, List.getD_eq_getElem?_getD, List.getElem?_eq_getElem (by rw [Hll.out]; exact hm)]
          rfl
        · rw [List.getElem?_eq_none (by omega), List.getElem?_eq_none (by rw [List.length_map, Hll.out]; omega)]
      rw [hos] at o1
      have HO4 := lib_hid o1
      have HG4 : Hid (Grows w w4) := lib_hid (below_trans Hgr.out (hk4.below Hgr.out.le (fun i hi => by have := Hgr.out.le; omega)))
      have c4 : w4.cell? ⟨bo, 0, none⟩ = some (.slice (some ⟨w.heap.size, 0, none⟩) k k) := hBo4.cell 0
      clear hk4 hgW hBo4 o1 o2 o3 o4 hos HRn
      go_wp2
      go_ret2
      exact ⟨w.heap.size, rfl, HG4.out, Nat.le_refl _, HO4.out⟩
end Go.Proofs.YtnlffaglmcddkaaDoor
