/-
  The walk of sha's State.Sum.
-/
import Derived.Test.YtnlffaglmcddkaaDoorSha7
import Derived.Deep.Cut
import Derived.BigRegion
import Derived.RegionTactic
import Derived.Outline
import Derived.Deep.RegionLaw
namespace Go.Proofs.YtnlffaglmcddkaaDoor
open Go Go.RowKit
set_option linter.unusedSimpArgs false


attribute [local irreducible] startV schedF moreW firstW blockF roundsF sumsF outF outW padS
theorem grown_drew1 {w w' : World} {r : Option Nat} (h : w.drew.grownBy w' r) : w.grownBy w' r := ⟨h.os, h.tape, h.output, h.size, h.block⟩
theorem step_append_own {P : Program} {ops : Array Oper} {o : Oper} {a : Act} {w : World} {K : Act → World → Prop} {Q : Exit → Act → World → Prop} {E : Prop} (hgd : o.guard = none) (s x : Operand) (t : TypeId)
    (ho : o.op = .call { callee := .builtin .append, args := #[s, x], argTypes := #[t, t] })
    (base : Nat) (e : TypeId) (z : Value) (bytes : Nat) (ht : P.underlying t = some (.slice e)) (hinfo : (P.info? e).map (fun i => (i.zero, i.size, i.bytes)) = some (some z, 1, bytes)) (hz1 : z.cells = #[z])
    (v : Value) (n : Nat) (xs : List Value) (hs : a.eval s = v) (hown : w.ownsRow base e 1 v n xs) (A : Option Addr) (m c : Nat) (news : List Value) (hx : a.eval x = .slice A m c) (hr : Row w A m c news) (h1 : ∀ u ∈ news, u.oneCell' = true)
    (hbytes : (n + m) * bytes ≤ 140737488355328) (hb : 0 < bytes) (hbase : base ≤ w.heap.size)
    (h : ∀ A' c' w', Hid (w'.ownsRow base e 1 (.slice A' (n + m) c') (n + m) (xs ++ news)) → Hid (Below base w w') → K (a.put o.dst (.slice A' (n + m) c')) w') :
    if Region.wanted o (yielded ops a.tmps) = true then Oper.wp P o a w K Q else E := by
  have hw : Region.wanted o (yielded ops a.tmps) = true := by simp [Region.wanted, hgd]
  rw [if_pos hw]
  obtain ⟨A', c', w', hrun, h2, h3, h4⟩ := run_append_row (P := P) (w := w) base t o.type e z bytes ht hinfo hz1 v n xs hown A m c news hr h1 hbytes hb hbase
  unfold Oper.wp
  simp only [execOp, ho, resolve, invoke, builtin, Sem.run_bind, Sem.run_pure, Result.andThen_ok, List.map_toArray, List.map_cons, List.map_nil, hs, hx, hrun]
  exact h A' c' w' (lib_hid h2) (lib_hid h3)

theorem Keeps.grows' {own : Nat → Prop} {w w5 w6 : World} (h : Keeps own w5 w6) (hg : Grows w w5) (ho : ∀ i, own i → w.heap.size ≤ i) : Grows w w6 :=
  Below.trans hg (h.below hg.le ho)
set_option maxRecDepth 100000 in
set_option maxHeartbeats 4000000 in
theorem ssum_any {tK : TypeId} (ks : List UInt32) (g base : Nat) (rb : Option Nat) (H : V8) (R : List UInt8) (N : Nat) (w : World)
    (hkl : ks.length = 64) (HK : Hid (Blk w 0 tK (ks.map b32).toArray)) (hP : ShSt w base g rb H R N)
    (hN : N ≤ 1000000000) (hR : R.length < 64) :
    Calls Tryd.prog 38 #[.pointer (some ⟨g, 0, none⟩)] w fun e w' => e = .returned (.agg ((outF (runF ks H (R ++ padS N)).1).map b8).toArray) ∧ Grows w w' := by
  obtain ⟨hbg, A, n, c, hB, hO, hrb, hne⟩ := hP
  have hn : n < 64 := by have := hO.1; rw [List.length_map] at this; omega
  obtain ⟨W, HW⟩ : ∃ W : World, Hid (W = w.alloc (.cells #[.int .u8 0, .int .u8 0, .int .u8 0, .int .u8 0, .int .u8 0, .int .u8 0, .int .u8 0, .int .u8 0, .int .u8 0, .int .u8 0, .int .u8 0, .int .u8 0, .int .u8 0, .int .u8 0, .int .u8 0, .int .u8 0, .int .u8 0, .int .u8 0, .int .u8 0, .int .u8 0, .int .u8 0, .int .u8 0, .int .u8 0, .int .u8 0, .int .u8 0, .int .u8 0, .int .u8 0, .int .u8 0, .int .u8 0, .int .u8 0, .int .u8 0, .int .u8 0] 32)) := ⟨_, lib_hid rfl⟩
  have hgW : Grows w W := by rw [HW.out]; exact (Grows.refl w).alloc _
  have HgW := lib_hid hgW
  have HZ : Hid (Blk W w.heap.size 32 #[.int .u8 0, .int .u8 0, .int .u8 0, .int .u8 0, .int .u8 0, .int .u8 0, .int .u8 0, .int .u8 0, .int .u8 0, .int .u8 0, .int .u8 0, .int .u8 0, .int .u8 0, .int .u8 0, .int .u8 0, .int .u8 0, .int .u8 0, .int .u8 0, .int .u8 0, .int .u8 0, .int .u8 0, .int .u8 0, .int .u8 0, .int .u8 0, .int .u8 0, .int .u8 0, .int .u8 0, .int .u8 0, .int .u8 0, .int .u8 0, .int .u8 0, .int .u8 0]) := by unfold Hid; rw [HW.out]; exact Blk.new _ _ _
  have HB := lib_hid (hB.grows hgW)
  have HO := lib_hid (hO.grows hgW)
  have HKW := lib_hid (HK.out.grows hgW)
  obtain ⟨gz, Hgz⟩ : ∃ x, Hid (w.heap.size = x) := ⟨_, lib_hid rfl⟩
  have Hle := lib_hid hgW.le
  have HN := lib_hid hN
  have Hn := lib_hid hn
  obtain ⟨a, b, c1, d1, e, f, g1, hh⟩ := H
  have HR : Hid (∀ W2, Grows W W2 → Row W2 A n c (R.map b8)) := fun W2 hW => (HO.out.grows hW).row
  have q0 := HB.out.cell 0
  have q1 := HB.out.cell 1
  have q2 := HB.out.cell 2
  have q3 := HB.out.cell 3
  have q4 := HB.out.cell 4
  have q5 := HB.out.cell 5
  have q6 := HB.out.cell 6
  have q7 := HB.out.cell 7
  have q8 : W.cell? ⟨g, 8, none⟩ = some (.slice A n c) := HB.out.cell 8
  have hzg := HB.out.lt
  have HQ : Hid (∀ W2, Grows W W2 → W2.cell? ⟨g, 0, none⟩ = some (b32 a) ∧ W2.cell? ⟨g, 1, none⟩ = some (b32 b) ∧ W2.cell? ⟨g, 2, none⟩ = some (b32 c1) ∧ W2.cell? ⟨g, 3, none⟩ = some (b32 d1) ∧ W2.cell? ⟨g, 4, none⟩ = some (b32 e) ∧ W2.cell? ⟨g, 5, none⟩ = some (b32 f) ∧ W2.cell? ⟨g, 6, none⟩ = some (b32 g1) ∧ W2.cell? ⟨g, 7, none⟩ = some (b32 hh) ∧ W2.cell? ⟨g, 8, none⟩ = some (.slice A n c)) := fun W2 hW => by
    have hB := HB.out.grows hW
    exact ⟨hB.cell 0, hB.cell 1, hB.cell 2, hB.cell 3, hB.cell 4, hB.cell 5, hB.cell 6, hB.cell 7, hB.cell 8⟩
  have Hbl := lib_hid (show (0 + n) * 1 ≤ 140737488355328 by omega)
  have Hw0 : Hid (0 < W.heap.size) := Nat.lt_of_le_of_lt (Nat.zero_le _) hzg
  have HKl := lib_hid hkl
  have HRl := lib_hid hR
  have HV : Hid ((⟨a, b, c1, d1, e, f, g1, hh⟩ : V8) = ⟨a, b, c1, d1, e, f, g1, hh⟩) := rfl
  obtain ⟨F, HF⟩ : ∃ x, Hid (runF ks ⟨a, b, c1, d1, e, f, g1, hh⟩ (R ++ padS N) = x) := ⟨_, lib_hid rfl⟩
  rw [HF.out]
  clear hB hO hgW hN hn HK hkl hR
  go_enter Tryd.func38, Tryd.ntmps38
  go_upto_region 3 with fail
  rw [← HW.out, Hgz.out]
  clear HW
  change W.cell? ⟨g, 0, none⟩ = some (b32 a) at q0
  change W.cell? ⟨g, 1, none⟩ = some (b32 b) at q1
  change W.cell? ⟨g, 2, none⟩ = some (b32 c1) at q2
  change W.cell? ⟨g, 3, none⟩ = some (b32 d1) at q3
  change W.cell? ⟨g, 4, none⟩ = some (b32 e) at q4
  change W.cell? ⟨g, 5, none⟩ = some (b32 f) at q5
  change W.cell? ⟨g, 6, none⟩ = some (b32 g1) at q6
  change W.cell? ⟨g, 7, none⟩ = some (b32 hh) at q7
  go_region_law (refine step_append_own rfl _ _ 28 rfl W.heap.size 5 (.int .u8 0) 1 Tryd.underlying28 Tryd.infoByte rfl _ 0 [] rfl (World.ownsRow_lit (base := W.heap.size) (e := 5) (size := 1) W.drew #[] 0 (Nat.le_refl _) (by unfold maxLen; omega) rfl) A n c (R.map b8) rfl (HR.out _ ((Grows.refl W).drew.alloc _)) (b8_one _) Hbl.out (by omega) (by simp) ?_; intro A4 c4 w4 ho4 hb4; have Hg4 : Hid (Grows W w4) := Below.trans ((Grows.refl W).drew.alloc _) hb4.out; obtain ⟨p0, p1, p2, p3, p4, p5, p6, p7, p8⟩ := HQ.out w4 Hg4.out; clear hb4)
  all_goals
    clear p0 p1 p2 p3 p4 p5 p6 p7 p8 q0 q1 q2 q3 q4 q5 q6 q7 q8
    obtain ⟨gt, Hgt⟩ : ∃ x, Hid (w4.heap.size = x) := ⟨_, lib_hid rfl⟩
    obtain ⟨Wn, HWn⟩ : ∃ x : World, Hid (x = w4.alloc (.cells (SC ⟨a, b, c1, d1, e, f, g1, hh⟩ (.slice A4 n c4) 0) 82)) := ⟨_, lib_hid rfl⟩
    have hO4 : OwnAt w4 W.heap.size A4 n c4 (R.map b8) := by
      have := ho4.out
      rw [Nat.zero_add, List.nil_append] at this
      exact OwnAt.of_own this
    have Hgn : Hid (Grows W Wn) := by unfold Hid; rw [HWn.out]; exact Hg4.out.alloc _
    have HP : Hid (ShSt Wn W.heap.size gt (blkOf A4) ⟨a, b, c1, d1, e, f, g1, hh⟩ R 0) := by
      unfold Hid
      rw [HWn.out, ← Hgt.out]
      refine ⟨Hg4.out.le, A4, n, c4, Blk.new _ _ _, hO4.grows ((Grows.refl _).alloc _), rfl, fun he => ?_⟩
      obtain ⟨p, hp, e1⟩ := Option.map_eq_some_iff.1 he
      have := hO4.lt p hp
      omega
    have HA4 : Hid (∀ k, blkOf A4 = some k → W.heap.size ≤ k) := fun k hk => by
      obtain ⟨p, hp, rfl⟩ := Option.map_eq_some_iff.1 hk
      exact hO4.base_le p hp
    have Hgtl : Hid (W.heap.size ≤ gt) := by unfold Hid; rw [← Hgt.out]; exact Hg4.out.le
    have Hgtn : Hid (gt < Wn.heap.size) := by unfold Hid; rw [HWn.out, ← Hgt.out]; simp
    have r9 : Wn.cell? ⟨g, 9, none⟩ = some (.int .i64 (N : Int)) := (HB.out.grows Hgn.out).cell 9
    have hW : w4.alloc (.cells #[b32 a, b32 b, b32 c1, b32 d1, b32 e, b32 f, b32 g1, b32 hh, .slice A4 n c4, .int .i64 0] 82) = Wn := HWn.out.symm
    rw [hW, Hgt.out]
    clear hO4 ho4 hW HWn Hgt Hg4 HQ HR HB HO hzg Hbl
    go_wp2_with fail
    refine (pad_any N (by have := HN.out; omega) Wn).mono ?_
    rintro e5 w5 ⟨A5, n5, c5, hn5, rfl, hg5, ho5⟩
    have hO5 := OwnAt.of_own ho5
    have hS5 : SB w5 A5 n5 c5 (padS N) := SB.own ho5
    have hm5 : n5 ≤ 1000000 := by rw [hn5.out, padS_len]; unfold padZ; omega
    have hP5 : ShSt w5 W.heap.size gt (blkOf A4) ⟨a, b, c1, d1, e, f, g1, hh⟩ R 0 := by
      obtain ⟨x1, A', n', c', x2, x3, x4, x5⟩ := HP.out
      exact ⟨x1, A', n', c', x2.grows hg5, x3.grows hg5, x4, x5⟩
    have hK5 : Hid (Blk w5 0 tK (ks.map b32).toArray) := HKW.out.grows (Hgn.out.trans hg5)
    have Hwr := lib_hid (write_any ks gt W.heap.size (blkOf A4) ⟨a, b, c1, d1, e, f, g1, hh⟩ R (padS N) 0 A5 n5 c5 w5 HKl.out hK5 hP5 hS5 (fun _ p hp => by have := hO5.base_le p hp; have := Hgtn.out; omega) (Hgn.out.trans hg5).le Hw0.out ⟨by omega, by omega⟩ HRl.out hm5)
    have Hg5 : Hid (Grows W w5) := Hgn.out.trans hg5
    clear hO5 hS5 hm5 hP5 hK5 ho5 hn5 hg5 r9 HP Hgn Hgtn
    go_wp2_with fail
    refine Hwr.out.mono ?_
    rintro e6 w6 ⟨rfl, rb6, hP6, hK6, hl6⟩
    obtain ⟨x1, A6, n6, c6, hB6, x3, x4, x5⟩ := hP6
    have Hg6 : Hid (Grows W w6) := (hK6.grows' Hg5.out (fun i hi => by
      rcases hi with h | h
      · rw [h]; exact Hgtl.out
      · exact HA4.out i h))
    rw [HF.out] at hB6
    obtain ⟨⟨a2, b2, c2, d2, e2, f2, g2, h2⟩, R2⟩ := F
    have HB6 := lib_hid hB6
    have HZ6 := lib_hid (HZ.out.grows Hg6.out)
    have y0 : w6.cell? ⟨gt, 0, none⟩ = some (b32 a2) := hB6.cell 0
    have y1 : w6.cell? ⟨gt, 1, none⟩ = some (b32 b2) := hB6.cell 1
    have y2 : w6.cell? ⟨gt, 2, none⟩ = some (b32 c2) := hB6.cell 2
    have y3 : w6.cell? ⟨gt, 3, none⟩ = some (b32 d2) := hB6.cell 3
    have y4 : w6.cell? ⟨gt, 4, none⟩ = some (b32 e2) := hB6.cell 4
    have y5 : w6.cell? ⟨gt, 5, none⟩ = some (b32 f2) := hB6.cell 5
    have y6 : w6.cell? ⟨gt, 6, none⟩ = some (b32 g2) := hB6.cell 6
    have y7 : w6.cell? ⟨gt, 7, none⟩ = some (b32 h2) := hB6.cell 7
    obtain ⟨rs, Hrs, hrl, hra⟩ : ∃ rs : Array Value, Hid (((outF ⟨a2, b2, c2, d2, e2, f2, g2, h2⟩).map b8).toArray = rs) ∧ rs.size = 32 ∧ rs.all (·.oneCell') = true := ⟨_, lib_hid rfl, by simp [outF_len], cells_all _⟩
    have HO6 : Hid (Calls Tryd.prog 25 #[.agg #[b32 a2, b32 b2, b32 c2, b32 d2, b32 e2, b32 f2, b32 g2, b32 h2]] w6 fun e w' => e = .returned (.agg rs) ∧ Grows w6 w') := by
      rw [← Hrs.out]; exact out_any ⟨a2, b2, c2, d2, e2, f2, g2, h2⟩ w6
    clear hB6 x3 x4 x5 hK6 hl6 Hwr Hg5 HF HA4 HB6 HZ
    go_wp2_with fail
    refine HO6.out.mono ?_
    rintro e7 w7 ⟨rfl, hg7⟩
    have HZ7 : Hid (Blk w7 gz 32 #[.int .u8 0, .int .u8 0, .int .u8 0, .int .u8 0, .int .u8 0, .int .u8 0, .int .u8 0, .int .u8 0, .int .u8 0, .int .u8 0, .int .u8 0, .int .u8 0, .int .u8 0, .int .u8 0, .int .u8 0, .int .u8 0, .int .u8 0, .int .u8 0, .int .u8 0, .int .u8 0, .int .u8 0, .int .u8 0, .int .u8 0, .int .u8 0, .int .u8 0, .int .u8 0, .int .u8 0, .int .u8 0, .int .u8 0, .int .u8 0, .int .u8 0, .int .u8 0]) := by rw [← Hgz.out]; exact HZ6.out.grows hg7
    have Hg7 : Hid (Grows w w7) := HgW.out.trans (Hg6.out.trans hg7)
    have Hgzl : Hid (w.heap.size ≤ gz) := by rw [← Hgz.out]; exact lib_hid (Nat.le_refl _)
    clear y0 y1 y2 y3 y4 y5 y6 y7 HZ6 Hg6 hg7
    go_wp2_with (refine wpList_store_blk rfl _ _ _ rfl gz rs rfl rfl 32 _ HZ7.out (by rw [Tryd.size32B, hrl]) (by rw [hrl]; rfl) hra w.heap.size w Hg7.out Hgzl.out ?_; intro w8 H8 hb8 hg8)
    refine bodyPost_ret (results_cell_row rfl _ _ gz _ _ _ _ rfl H8 Tryd.underlying32 rfl (by rw [Tryd.size32B, hrl])) rfl ?_
    exact ⟨by rw [← Hrs.out], hb8⟩

end Go.Proofs.YtnlffaglmcddkaaDoor
