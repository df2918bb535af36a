/-
  The walks of Cut and Places.
-/
import Derived.Test.YtbmmjkpibnnmeaaDesc1
import Derived.Lib.MinMax
namespace Go.Proofs.Ytbmmjkpibnnmeaa
open Go Go.RowKit
set_option linter.unusedSimpArgs false


def cutStep (st : List (Int × Int) × Int) (p : Int × Int) : List (Int × Int) × Int := if 0 < min p.2 st.2 then (st.1 ++ [(p.1, min p.2 st.2)], st.2 - min p.2 st.2) else st
def cutT (l : List (Int × Int)) (n : Int) : List (Int × Int) × Int := l.foldl cutStep ([], n)
theorem cutT_succ {l : List (Int × Int)} {n : Int} {k : Nat} {p : Int × Int} (h : l[k]? = some p) : cutT (l.take (k + 1)) n = cutStep (cutT (l.take k) n) p := by
  unfold cutT
  rw [List.take_add_one, h, List.foldl_append]
  rfl
set_option maxRecDepth 100000 in
set_option maxHeartbeats 4000000 in
theorem cut_any (l : List (Int × Int)) (n0 : Int) (A : Option Addr) (n c : Nat) (w : World) (hs : SpanR w A n c l) (hn : n ≤ 1000000) (h1 : -9223372036854775808 ≤ n0) (h2 : n0 ≤ 9223372036854775807) :
    Calls Try.prog 13 #[.slice A n c, .int .i64 n0] w (NewS 28 w (cutT l n0).1) := by
  have HS := lib_hid hs
  have hll := lib_hid hs.len
  have hcap := hs.max
  unfold maxLen at hcap
  have hnc := hs.cap
  clear hs
  go_enter Try.func13, Try.ntmps13
  go_wp2
  go_loopw [1, 5, 10] (fun nv v i wr => ∃ (k q : Nat) (N : Int) (o : List (Int × Int)) (C : Option Addr) (e : Nat), k ≤ n ∧ q ≤ k ∧ i = .int .i64 k ∧ nv = .int .i64 N ∧ v = .slice C q e ∧ -9223372036854775808 ≤ N ∧ N ≤ 9223372036854775807 ∧ Hid (cutT (l.take k) n0 = (o, N)) ∧ Hid (o.length = q) ∧ Grows w wr ∧ Hid (wr.ownsRow w.heap.size 28 2 (.slice C q e) q (flat o))) (fun _ _ i _ => n - (intOf i).toNat)
  case atStart => exact ⟨0, 0, n0, [], none, 0, Nat.zero_le _, Nat.le_refl _, rfl, rfl, rfl, h1, h2, lib_hid rfl, lib_hid rfl, Grows.refl w, lib_hid (World.ownsRow_nil _ _ _ _)⟩
  case round =>
    clear h1 h2
    obtain ⟨k, q, N, o, C, e, hk, hq, rfl, rfl, rfl, h1, h2, Hc, Hq, hgr, HO⟩ := hrel
    by_cases hlt : k < n
    · have hki : (k : Int) < n := by omega
      obtain ⟨b, off, x, y, rfl, hb, hxy, hc1, hc2⟩ := HS.out.at hlt
      have hb' : b < wr.heap.size := hgr.lt hb
      have e1 := (hgr.cell (p := ⟨b, off + k * 2, none⟩) hb).trans hc1
      have e2 := (hgr.cell (p := ⟨b, off + k * 2 + 1, none⟩) hb).trans hc2
      have Htk : Hid (cutT (l.take (k + 1)) n0 = cutStep (o, N) (x, y)) := by unfold Hid; rw [cutT_succ hxy, Hc.out]
      have HSz := lib_hid hgr.le
      clear hc1 hc2 hxy hb Hc
      by_cases h0 : 0 < min y N
      · obtain ⟨m, hm, Hm, hm1⟩ : ∃ m, min y N = m ∧ Hid (min y N = m) ∧ m ≤ N := ⟨_, rfl, lib_hid rfl, by omega⟩
        have h0' := h0
        rw [hm] at h0
        have Htk2 : Hid (cutT (l.take (k + 1)) n0 = (o ++ [(x, m)], N - m)) := by
          unfold Hid; rw [Htk.out, cutStep, if_pos h0', Hm.out]
        have HW : ∀ W : World, wr.heap.size + 1 ≤ W.heap.size → w.heap.size ≤ W.heap.size := fun W h => by have := HSz.out; omega
        have HW' := lib_hid HW
        have Hgr := lib_hid hgr
        have HG : Hid (Blk ((wr.alloc (.cells #[iV x, iV m] 28)).alloc (.cells #[iV x, iV m] 28)) (wr.heap.size + 1) 28 #[iV x, iV m]) := by
          have := Blk.new (wr.alloc (.cells #[iV x, iV m] 28)) 28 #[iV x, iV m]
          unfold Hid; simpa using this
        have HO1 := lib_hid (own_grows HO.out (((Grows.refl wr).alloc (.cells #[iV x, iV m] 28)).alloc (.cells #[iV x, iV m] 28)))
        have HBx : Hid (Blk ((wr.alloc (.cells #[iV x, iV m] 28)).alloc (.cells #[iV x, iV m] 28)) wr.heap.size 28 #[iV x, iV m]) := (Blk.new wr 28 #[iV x, iV m]).alloc _
        have Hne : Hid (some wr.heap.size ≠ blkOf C) := fun e1 => by
          have := (HO.out.lt wr.heap.size (by rw [show (Value.slice C q e).ownBlock = blkOf C by cases C <;> rfl]; exact e1.symm)).2
          omega
        clear h0' HW Htk HO hgr
        go_upto_region 8 with (at_builtin; refine wpList_append_pair (by kernel_rfl) _ _ 24 rfl w.heap.size 28 (.agg #[.int .i64 0, .int .i64 0]) 16 Try.underlying24 Try.info28 rfl _ q e o rfl HO1.out (wr.heap.size + 1) 28 x m rfl HG.out (by omega) (by omega) (HW'.out _ (by simp)) ?_; intro A4 c4 w4 ho4 hb4 hg4)
        have hgr4 : Grows w w4 := Below.trans ((Hgr.out.alloc _).alloc _) hb4
        have HO4 := lib_hid ho4
        have cb := (HBx.out.grown hg4 Hne.out).cell 1
        simp only [List.getElem?_toArray, List.getElem?_cons_succ, List.getElem?_cons_zero] at cb
        clear ho4 hb4 hg4 HO1 HG hm Hgr
        go_wp2
        go_roundw
        case rel => exact ⟨k + 1, q + 1, N - m, _, A4, c4, by omega, by omega, by go_num, rfl, rfl, by omega, by omega, Htk2, lib_hid (by rw [List.length_append, Hq.out]; rfl), hgr4, HO4⟩
        case measure => simp [intOf]; omega
      · have Htk2 : Hid (cutT (l.take (k + 1)) n0 = (o, N)) := by
          unfold Hid; rw [Htk.out, cutStep, if_neg h0]
        obtain ⟨m, hm⟩ : ∃ m, min y N = m := ⟨_, rfl⟩
        rw [hm] at h0
        have HO1 := lib_hid (own_grows HO.out ((Grows.refl wr).alloc (.cells #[iV x, iV m] 28)))
        have hgr4 := hgr.alloc (.cells #[iV x, iV m] 28)
        have Hgr4 := lib_hid hgr4
        clear Htk HO hgr hgr4
        go_wp2
        go_roundw
        case rel => exact ⟨k + 1, q, N, o, C, e, by omega, by omega, by go_num, rfl, rfl, h1, h2, Htk2, Hq, Hgr4.out, HO1⟩
        case measure => simp [intOf]; omega
    · have hki : ¬ (k : Int) < n := by omega
      have h := Hc.out
      rw [show l.take k = l by rw [List.take_of_length_le]; rw [hll.out]; omega] at h
      have HN : Hid ((cutT l n0).1 = o) := by unfold Hid; rw [h]
      clear h Hc
      go_wp2
      go_ret
      exact newS_mk rfl (by rw [HN.out]; exact Hq.out.symm) hgr (by rw [HN.out]; exact HO.out)

/-- The places of a span's bytes. -/
def spots (p : Int × Int) : List Int := (List.range p.2.toNat).map fun (j : Nat) => p.1 + (j : Int)
def placesF (l : List (Int × Int)) : List Int := l.flatMap spots
theorem placesF_append (l m : List (Int × Int)) : placesF (l ++ m) = placesF l ++ placesF m := List.flatMap_append
theorem spots_len (p : Int × Int) : (spots p).length = p.2.toNat := by simp [spots]
def spotsN (x : Int) (j : Nat) : List Int := (List.range j).map fun (i : Nat) => x + (i : Int)
theorem spotsN_succ (x : Int) (j : Nat) : spotsN x (j + 1) = spotsN x j ++ [x + (j : Int)] := by simp [spotsN, List.range_succ]
theorem iV_one (l : List Int) : ∀ u ∈ l.map iV, u.oneCell' = true := by
  intro u hu
  obtain ⟨x, _, rfl⟩ := List.mem_map.1 hu
  rfl
theorem one_int (w : World) (t : TypeId) (x : Int) : Row (w.alloc (.cells #[iV x] t)) (some ⟨w.heap.size, 0, none⟩) 1 1 ([x].map iV) := by
  have := (Blk.new w t #[iV x]).row (o := 0) (n := 1) (c := 1) (Nat.le_refl _) (by simp) (by unfold maxLen; omega)
  exact this
set_option maxRecDepth 100000 in
set_option maxHeartbeats 4000000 in
theorem places_any (l : List (Int × Int)) (A : Option Addr) (n c : Nat) (w : World) (hs : SpanR w A n c l) (hn : n ≤ 12) (hp : ∀ p ∈ l, 0 ≤ p.1 ∧ p.1 < 2147483648 ∧ 0 ≤ p.2 ∧ p.2 ≤ 400) :
    Calls Try.prog 15 #[.slice A n c] w (NewI 3 w (placesF l)) := by
  have HS := lib_hid hs
  have hll := lib_hid hs.len
  have HPp := lib_hid hp
  have hcap := hs.max
  unfold maxLen at hcap
  have hnc := hs.cap
  clear hs hp
  go_enter Try.func15, Try.ntmps15
  go_wp2
  go_loopw [3, 4] (fun v i wr => ∃ (k q : Nat) (C : Option Addr) (e : Nat), k ≤ n ∧ q ≤ 400 * k ∧ i = .int .i64 k ∧ v = .slice C q e ∧ Hid ((placesF (l.take k)).length = q) ∧ Grows w wr ∧ Hid (wr.ownsRow w.heap.size 3 1 (.slice C q e) q ((placesF (l.take k)).map iV))) (fun _ i _ => n - (intOf i).toNat)
  case atStart => exact ⟨0, 0, none, 0, Nat.zero_le _, Nat.le_refl _, rfl, rfl, lib_hid rfl, Grows.refl w, lib_hid (World.ownsRow_nil _ _ _ _)⟩
  case round =>
    obtain ⟨k, q, C, e, hk, hq, rfl, rfl, Hq, hgr, HO⟩ := hrel
    by_cases hlt : k < n
    · have hki : (k : Int) < n := by omega
      obtain ⟨b, off, x, y, rfl, hb, hxy, hc1, hc2⟩ := HS.out.at hlt
      have HC : Hid (∀ W, Grows w W → W.cell? ⟨b, off + k * 2, none⟩ = some (.int .i64 x) ∧ W.cell? ⟨b, off + k * 2 + 1, none⟩ = some (.int .i64 y)) := fun W hW =>
        ⟨(hW.cell (p := ⟨b, off + k * 2, none⟩) hb).trans hc1, (hW.cell (p := ⟨b, off + k * 2 + 1, none⟩) hb).trans hc2⟩
      obtain ⟨hx0, hx1, hy0, hy1⟩ := HPp.out (x, y) (List.mem_of_getElem? hxy)
      simp only at hx0 hx1 hy0 hy1
      obtain ⟨m, rfl⟩ : ∃ m : Nat, y = (m : Int) := ⟨y.toNat, by omega⟩
      have Htk : Hid (placesF (l.take (k + 1)) = placesF (l.take k) ++ spotsN x m) := by
        unfold Hid; rw [List.take_add_one, hxy, placesF_append]; simp [placesF, spots, spotsN]
      have HO0 : Hid (wr.ownsRow w.heap.size 3 1 (.slice C q e) q ((placesF (l.take k) ++ spotsN x 0).map iV)) := by unfold Hid; simpa [spotsN] using HO.out
      obtain ⟨P0, HP0⟩ : ∃ P0, Hid (placesF (l.take k) = P0) := ⟨_, lib_hid rfl⟩
      rw [HP0.out] at Hq HO0
      have Hgr := lib_hid hgr
      clear hc1 hc2 hxy hb HO hgr
      go_wp2
      go_loopw [3, 5] (fun v i wr => ∃ (j s : Nat) (C : Option Addr) (e : Nat), j ≤ m ∧ Hid (s = q + j) ∧ s ≤ 400 * k + j ∧ i = .int .i64 j ∧ v = .slice C s e ∧ Grows w wr ∧ Hid (wr.ownsRow w.heap.size 3 1 (.slice C s e) s ((P0 ++ spotsN x j).map iV))) (fun _ i _ => m - (intOf i).toNat)
      case atStart => exact ⟨0, q, C, e, Nat.zero_le _, lib_hid rfl, hq, rfl, rfl, Hgr.out, HO0⟩
      case round =>
        clear HO0 Hgr
        obtain ⟨j, s, C, e, hj, Hs, hsb, rfl, rfl, hgr, HO⟩ := hrel
        obtain ⟨q1, q2⟩ := HC.out wr hgr
        by_cases hjm : j < m
        · have hji : (j : Int) < m := by omega
          obtain ⟨z, hz, Hz⟩ : ∃ z, x + (j : Int) = z ∧ Hid (x + (j : Int) = z) := ⟨_, rfl, lib_hid rfl⟩
          have hzb : -9223372036854775808 ≤ z ∧ z ≤ 9223372036854775807 := by omega
          have HO1 := lib_hid (own_grows HO.out ((Grows.refl wr).alloc (.cells #[iV z] 3)))
          have HR := lib_hid (one_int wr 3 z)
          have Hgr := lib_hid hgr
          have Hle := lib_hid hgr.le
          clear HO hgr
          go_wp2_with (at_builtin; refine wpList_append rfl _ _ 30 rfl w.heap.size 3 (.int .i64 0) 8 Try.underlying30 Try.info3 rfl _ s _ rfl HO1.out _ _ _ ([z].map iV) rfl HR.out (iV_one [z]) (by omega) (by omega) (by have := Hle.out; simp; omega) ?_; intro A4 c4 w4 ho4 hb4 hg4)
          have hgr4 : Grows w w4 := Below.trans (Hgr.out.alloc _) hb4
          have HO4 : Hid (w4.ownsRow w.heap.size 3 1 (.slice A4 (s + 1) c4) (s + 1) ((P0 ++ spotsN x (j + 1)).map iV)) := by
            unfold Hid; rw [spotsN_succ, Hz.out, ← List.append_assoc, List.map_append]; exact ho4
          clear ho4 hb4 hg4 HO1 HR hz q1 q2
          go_roundw
          case rel => exact ⟨j + 1, s + 1, A4, c4, by omega, lib_hid (by have := Hs.out; omega), by omega, by go_num, rfl, hgr4, HO4⟩
          case measure => simp [intOf]; omega
        · have hji : ¬ (j : Int) < m := by omega
          have hjm' : j = m := by omega
          have HO2 := HO.out
          rw [hjm', ← HP0.out, ← Htk.out] at HO2
          have Hlen : Hid ((placesF (l.take (k + 1))).length = s) := by
            unfold Hid; rw [Htk.out, HP0.out, List.length_append, Hq.out, Hs.out, ← hjm']; simp [spotsN]
          have HO3 := lib_hid HO2
          have hsb2 : s ≤ 400 * (k + 1) := by omega
          clear HO HO2 hjm' hjm
          go_wp2
          go_roundw
          case rel => exact ⟨k + 1, s, C, e, by omega, hsb2, by go_num, rfl, Hlen, hgr, HO3⟩
          case measure => simp [intOf]; omega
    · have hki : ¬ (k : Int) < n := by omega
      have h := HO.out
      have h2 := Hq.out
      rw [show l.take k = l by rw [List.take_of_length_le]; rw [hll.out]; omega] at h h2
      have HO2 := lib_hid h
      have Hq2 := lib_hid h2
      clear HO h h2 Hq
      go_wp2
      go_ret
      exact newI_mk rfl Hq2.out.symm hgr HO2.out

end Go.Proofs.Ytbmmjkpibnnmeaa
