/-
  The walk of poly.Write.
-/
import Derived.Test.YtgolndfimhogoaaPoly2
import Derived.Deep.Cut
import Derived.ScopeJumps
import Derived.WalkMore
namespace Go.Proofs.Ytgolndfimhogoaa
open Go Go.RowKit
set_option linter.unusedSimpArgs false


def absorb (r0 r1 : UInt64) (h : Lim3) (bs : List UInt8) : Lim3 := multF r0 r1 (addH h (halfA bs) (halfB bs) 1)
def runF (r0 r1 : UInt64) : Nat → Lim3 → List UInt8 → Lim3
  | 0, h, _ => h
  | k + 1, h, bs => runF r0 r1 k (absorb r0 r1 h bs) (bs.drop 16)
theorem absorb_app (r0 r1 : UInt64) (h : Lim3) (xs ys : List UInt8) (hx : 16 ≤ xs.length) : absorb r0 r1 h (xs ++ ys) = absorb r0 r1 h xs := by
  unfold absorb halfA halfB
  rw [List.take_append_of_le_length (by omega), List.drop_append_of_le_length (by omega), List.take_append_of_le_length (by rw [List.length_drop]; omega)]
theorem runF_app (r0 r1 : UInt64) (k : Nat) : ∀ (h : Lim3) (xs ys : List UInt8), 16 * k ≤ xs.length → runF r0 r1 k h (xs ++ ys) = runF r0 r1 k h xs := by
  induction k with
  | zero => intro h xs ys _; rfl
  | succ k ih =>
    intro h xs ys hx
    rw [runF, runF, absorb_app r0 r1 h xs ys (by omega), List.drop_append_of_le_length (by omega)]
    exact ih _ _ _ (by rw [List.length_drop]; omega)
theorem runF_add (r0 r1 : UInt64) (a b : Nat) : ∀ (h : Lim3) (xs : List UInt8), runF r0 r1 (a + b) h xs = runF r0 r1 b (runF r0 r1 a h xs) (xs.drop (16 * a)) := by
  induction a with
  | zero => intro h xs; rw [Nat.zero_add]; rfl
  | succ a ih =>
    intro h xs
    rw [show a + 1 + b = (a + b) + 1 by omega, runF, ih, runF, List.drop_drop]
    congr 2
    omega
def stH (r0 r1 : UInt64) (bs : List UInt8) : Lim3 := runF r0 r1 (bs.length / 16) ⟨0, 0, 0⟩ bs
def stR (bs : List UInt8) : List UInt8 := bs.drop (16 * (bs.length / 16))
theorem stR_len (bs : List UInt8) : (stR bs).length = bs.length % 16 := by unfold stR; rw [List.length_drop]; omega
theorem st_app (r0 r1 : UInt64) (bs ys : List UInt8) : runF r0 r1 ((stR bs ++ ys).length / 16) (stH r0 r1 bs) (stR bs ++ ys) = stH r0 r1 (bs ++ ys) ∧ (stR bs ++ ys).drop (16 * ((stR bs ++ ys).length / 16)) = stR (bs ++ ys) := by
  have hl := stR_len bs
  have hd : (bs ++ ys).drop (16 * (bs.length / 16)) = stR bs ++ ys := by unfold stR; rw [List.drop_append_of_le_length (by omega)]
  have hq : (bs ++ ys).length / 16 = bs.length / 16 + (stR bs ++ ys).length / 16 := by rw [List.length_append, List.length_append, hl]; omega
  constructor
  · unfold stH
    rw [hq, runF_add, hd, runF_app r0 r1 (bs.length / 16) ⟨0, 0, 0⟩ bs ys (by omega)]
  · rw [← hd, List.drop_drop]
    unfold stR
    rw [hq, hd]
    congr 1
    omega
/-- A state in block g, its rest in block rb, of the bytes bs. -/
def PSt (w : World) (base g : Nat) (rb : Option Nat) (r0 r1 s0 s1 : UInt64) (bs : List UInt8) : Prop :=
  base ≤ g ∧ ∃ A n c, Blk w g 71 (PB r0 r1 s0 s1 (stH r0 r1 bs).x (stH r0 r1 bs).y (stH r0 r1 bs).z (.slice A n c)) ∧ OwnAt w base A n c ((stR bs).map b8) ∧ blkOf A = rb ∧ blkOf A ≠ some g
theorem PSt.keeps {w w' : World} {own : Nat → Prop} {base g : Nat} {rb : Option Nat} {r0 r1 s0 s1 : UInt64} {bs : List UInt8} (h : PSt w base g rb r0 r1 s0 s1 bs) (k : Keeps own w w') (h1 : ¬ own g) (h2 : ∀ b, rb = some b → ¬ own b) : PSt w' base g rb r0 r1 s0 s1 bs := by
  obtain ⟨hb, A, n, c, hB, hO, rfl, hne⟩ := h
  exact ⟨hb, A, n, c, hB.keeps k h1, hO.keeps k (fun p hp => h2 p.block (by rw [hp]; rfl)), rfl, hne⟩
theorem PSt.grows {w w' : World} {base g : Nat} {rb : Option Nat} {r0 r1 s0 s1 : UInt64} {bs : List UInt8} (h : PSt w base g rb r0 r1 s0 s1 bs) (k : Grows w w') : PSt w' base g rb r0 r1 s0 s1 bs := h.keeps (k.keeps (fun _ => False)) (fun h => h) (fun _ _ h => h)
theorem PSt.lt {w : World} {base g : Nat} {rb : Option Nat} {r0 r1 s0 s1 : UInt64} {bs : List UInt8} (h : PSt w base g rb r0 r1 s0 s1 bs) : g < w.heap.size ∧ ∀ b, rb = some b → base ≤ b ∧ b < w.heap.size := by
  obtain ⟨hb, A, n, c, hB, hO, rfl, hne⟩ := h
  refine ⟨hB.lt, fun b e => ?_⟩
  obtain ⟨p, hp, rfl⟩ := Option.map_eq_some_iff.1 e
  exact ⟨hO.base_le p hp, hO.lt p hp⟩
def mu (g : Nat) (W : World) : Nat := match W.cell? ⟨g, 7, none⟩ with | some (.slice _ n _) => n | _ => 0
theorem add_any1 (g : Nat) (r0 r1 s0 s1 h0 h1 h2 : UInt64) (v : Value) (l hh : UInt64) (w : World) (hB0 : Blk w g 71 (PB r0 r1 s0 s1 h0 h1 h2 v)) :
    Calls Try.prog 39 #[.pointer (some ⟨g, 0, none⟩), pV l hh, .int .u64 1] w fun e w' => e = .returned (.tuple #[]) ∧ w.grownBy w' (some g) ∧ Blk w' g 71 (PB r0 r1 s0 s1 (ad0 h0 l) (ad1 h0 h1 l hh) (ad2 h0 h1 h2 l hh 1) v) :=
  add_any g r0 r1 s0 s1 h0 h1 h2 v l hh 1 w hB0

set_option maxRecDepth 100000 in
set_option maxHeartbeats 4000000 in
theorem pwrite_any (g base : Nat) (rb : Option Nat) (r0 r1 s0 s1 : UInt64) (bs ys : List UInt8) (B : Option Addr) (m d : Nat) (w : World) (hP : PSt w base g rb r0 r1 s0 s1 bs) (hs : SB w B m d ys) (hm : m ≤ 1000000) (hbase : base ≤ w.heap.size) :
    Calls Try.prog 26 #[.pointer (some ⟨g, 0, none⟩), .slice B m d] w fun e w' => e = .returned (.tuple #[]) ∧ ∃ rb', PSt w' base g rb' r0 r1 s0 s1 (bs ++ ys) ∧ Keeps (fun k => k = g ∨ rb = some k) w w' ∧ (rb' = rb ∨ ∃ k, rb' = some k ∧ w.heap.size ≤ k) := by
  obtain ⟨hbg, A0, n0, c0, hB0, hO0, hrb, hne0⟩ := hP
  obtain ⟨own, Hown⟩ : ∃ o : Nat → Prop, Hid (o = fun k => k = g ∨ rb = some k) := ⟨_, lib_hid rfl⟩
  have hown1 : Hid (∀ k, k = g → own k) := fun k hk => by rw [Hown.out]; exact Or.inl hk
  obtain ⟨h, Hh0⟩ : ∃ x, Hid (stH r0 r1 bs = x) := ⟨_, lib_hid rfl⟩
  obtain ⟨F, hF1⟩ : ∃ x, Hid (x = stH r0 r1 (bs ++ ys)) := ⟨_, lib_hid rfl⟩
  obtain ⟨R, hF2⟩ : ∃ x, Hid (x = stR (bs ++ ys)) := ⟨_, lib_hid rfl⟩
  have HF0 : Hid (runF r0 r1 ((stR bs ++ ys).length / 16) h (stR bs ++ ys) = F ∧ (stR bs ++ ys).drop (16 * ((stR bs ++ ys).length / 16)) = R) := by
    unfold Hid; rw [← Hh0.out, hF1.out, hF2.out]; exact st_app r0 r1 bs ys
  have hn0 : n0 ≤ 16 := by have := hO0.1; rw [List.length_map, stR_len] at this; omega
  rw [Hh0.out] at hB0
  obtain ⟨rem0, Hrem⟩ : ∃ x, Hid (stR bs = x) := ⟨_, lib_hid rfl⟩
  rw [Hrem.out] at hO0 HF0
  have HB0 := lib_hid hB0
  have HO0 := lib_hid hO0
  have HSY := lib_hid hs
  have cR : w.cell? ⟨g, 7, none⟩ = some (.slice A0 n0 c0) := hB0.cell 7
  have fR := hB0.frozen 7
  rw [← Hown.out]
  have Hrb := lib_hid hrb
  clear hB0 hO0 hs hrb
  go_enter Try.func26, Try.ntmps26
  go_wp2_with fail
  refine wp_scope_jumps 0 (fun a' W => ∃ (h : Lim3) (A : Option Addr) (n c : Nat) (rem : List UInt8) (u2 u3 u4 u5 u6 u7 u8 u9 u10 u11 u12 u13 u14 u15 u16 u17 u18 u19 u20 u21 u22 u23 u24 u25 u26 u27 u28 u29 u30 u31 u32 u33 u34 u35 u36 u37 : Value), a' = { tmps := #[.pointer (some ⟨g, 0, none⟩), .slice B m d, u2, u3, u4, u5, u6, u7, u8, u9, u10, u11, u12, u13, u14, u15, u16, u17, u18, u19, u20, u21, u22, u23, u24, u25, u26, u27, u28, u29, u30, u31, u32, u33, u34, u35, u36, u37], defers := [] } ∧ Hid (Blk W g 71 (PB r0 r1 s0 s1 h.x h.y h.z (.slice A n c))) ∧ Hid (OwnAt W base A n c (rem.map b8)) ∧
      Hid (runF r0 r1 (rem.length / 16) h rem = F ∧ rem.drop (16 * (rem.length / 16)) = R) ∧ blkOf A ≠ some g ∧ (blkOf A = rb ∨ ∃ k, blkOf A = some k ∧ w.heap.size ≤ k) ∧ Keeps own w W) (fun _ W => mu g W) rfl ?_ ?_
  · go_upto_region 2 with (refine wpList_append_at rfl _ _ 22 22 rfl base 5 (.int .u8 0) 1 Try.underlying22 Try.infoByte rfl A0 n0 c0 _ rfl HO0.out (.slice B m d) rfl m _ (HSY.out.src Try.underlying22 (b8_one _)) (by omega) (by omega) hbase ?_; intro A c w1 hO1 hG1 hloc1; have hB1 := HB0.out.keeps (keeps_grown hG1) (fun e => hne0 e); have cR1 : w1.cell? ⟨g, 7, none⟩ = some (.slice A0 n0 c0) := hB1.cell 7; have fR1 := hB1.frozen 7)
    obtain ⟨n, Hn⟩ : ∃ x, Hid (n0 + m = x) := ⟨_, lib_hid rfl⟩
    obtain ⟨rem, Hrem⟩ : ∃ x, Hid (rem0 ++ ys = x) := ⟨_, lib_hid rfl⟩
    rw [Hn.out] at hO1 ⊢
    rw [← List.map_append, Hrem.out] at hO1
    obtain ⟨W, HW⟩ : ∃ W : World, Hid (W = w1.setCell ⟨g, 7, none⟩ (.slice A n c)) := ⟨_, lib_hid rfl⟩
    rw [← HW.out]
    have hbA : blkOf A ≠ some g := by
      intro e
      rcases hloc1 with h | h
      · exact hne0 (by rw [← h, e])
      · rw [h] at e
        have := Option.some.inj e
        have := HB0.out.lt
        omega
    have hloc : blkOf A = rb ∨ ∃ k, blkOf A = some k ∧ w.heap.size ≤ k := by
      rcases hloc1 with h | h
      · exact Or.inl (by rw [h, Hrb.out])
      · exact Or.inr ⟨_, h, Nat.le_refl _⟩
    have HB : Hid (Blk W g 71 (PB r0 r1 s0 s1 h.x h.y h.z (.slice A n c))) := by unfold Hid; rw [HW.out]; exact hB1.set 7 _
    have HO : Hid (OwnAt W base A n c (rem.map b8)) := by
      unfold Hid; rw [HW.out]
      exact hO1.keeps (keeps_set _ _ _) (fun p hp e => hbA (by rw [hp]; exact congrArg some e))
    have hK : Keeps own w W := by
      rw [HW.out]
      refine Keeps.trans ((keeps_grown hG1).mono (fun i hi _ => ?_)) (keeps_set _ _ _) (fun i hi _ => hown1.out i hi)
      rw [Hown.out]; exact Or.inr (by rw [← Hrb.out]; exact hi)
    have HF : Hid (runF r0 r1 (rem.length / 16) h rem = F ∧ rem.drop (16 * (rem.length / 16)) = R) := by rw [← Hrem.out]; exact HF0.out
    clear hO1 hG1 hloc1 hB1 cR1 fR1 HB0 HO0 HSY cR fR HF0
    go_step3
    have hlen := HO.out.1
    rw [List.length_map] at hlen
    have hncap := HO.out.2.1
    have hcmx := HO.out.2.2.1
    unfold maxLen at hcmx
    have cR : W.cell? ⟨g, 7, none⟩ = some (.slice A n c) := HB.out.cell 7
    have Hlen := lib_hid hlen
    clear hlen
    by_cases hz : n < 16
    · have h0 : (n : Int) < 16 := by omega
      have hq : Hid (rem.length / 16 = 0) := by unfold Hid; have := Hlen.out; omega
      have hh : Hid (h = F) := by have := HF.out.1; rw [hq.out] at this; exact this
      have hr : Hid (rem = R) := by have := HF.out.2; rw [hq.out] at this; exact this
      go_wp2_with fail
      (try simp only [Exit.jump])
      refine bodyPost_ret (results_none rfl _ _ _) rfl ?_
      refine ⟨rfl, blkOf A, ⟨hbg, A, n, c, ?_, ?_, rfl, hbA⟩, hK, hloc⟩
      · rw [← hF1.out, ← hh.out]; exact HB.out
      · rw [← hF2.out, ← hr.out]; exact HO.out
    · have h0 : ¬ (n : Int) < 16 := by omega
      have HS : Hid (SB W A n c rem) := HO.out.row
      obtain ⟨e0, He0⟩ : ∃ x, Hid (halfA rem = x) := ⟨_, lib_hid rfl⟩
      obtain ⟨e1, He1⟩ : ∃ x, Hid (halfB rem = x) := ⟨_, lib_hid rfl⟩
      obtain ⟨⟨i0, i1, i2⟩, Hi⟩ : ∃ x, Hid (addH h e0 e1 1 = x) := ⟨_, lib_hid rfl⟩
      obtain ⟨⟨j0, j1, j2⟩, Hj⟩ : ∃ x, Hid (multF r0 r1 ⟨i0, i1, i2⟩ = x) := ⟨_, lib_hid rfl⟩
      have Hab : Hid (absorb r0 r1 h rem = ⟨j0, j1, j2⟩) := by unfold Hid absorb; rw [He0.out, He1.out, Hi.out, Hj.out]
      go_wp2_with fail
      refine (half_any A n c rem W HS.out (by omega)).mono ?_
      rintro e w1 ⟨rfl, hg1⟩
      rw [He0.out, He1.out]
      have HB1 := lib_hid (HB.out.grows hg1)
      have HO1 := lib_hid (HO.out.grows hg1)
      have hK1 : Keeps own w w1 := hK.trans (hg1.keeps own) (fun i hi _ => hi)
      clear cR HB HO hK hg1
      go_wp2_with fail
      refine (add_any1 g r0 r1 s0 s1 h.x h.y h.z (.slice A n c) e0 e1 w1 HB1.out).mono ?_
      rintro e w2 ⟨rfl, hG2, hB2⟩
      have hB2' : Blk w2 g 71 (PB r0 r1 s0 s1 i0 i1 i2 (.slice A n c)) := by
        have e1 := Hi.out
        unfold addH at e1
        simp only [Lim3.mk.injEq] at e1
        rw [e1.1, e1.2.1, e1.2.2] at hB2
        exact hB2
      have HB2 := lib_hid hB2'
      have HO2 := lib_hid (HO1.out.keeps (keeps_grown hG2) (fun p hp e => hbA (by rw [hp]; exact e.symm)))
      have hK2 : Keeps own w w2 := hK1.trans (keeps_grown hG2) (fun i hi _ => hown1.out i (Option.some.inj hi).symm)
      clear hB2 hB2' hG2 HB1 HO1 hK1
      go_wp2_with fail
      refine (multiply_any g r0 r1 s0 s1 i0 i1 i2 (.slice A n c) w2 HB2.out).mono ?_
      rintro e w3 ⟨rfl, hG3, hB3⟩
      rw [Hj.out] at hB3
      have HB3 := lib_hid hB3
      have HO3 := lib_hid (HO2.out.keeps (keeps_grown hG3) (fun p hp e => hbA (by rw [hp]; exact e.symm)))
      have hK3 : Keeps own w w3 := hK2.trans (keeps_grown hG3) (fun i hi _ => hown1.out i (Option.some.inj hi).symm)
      have cR : w3.cell? ⟨g, 7, none⟩ = some (.slice A n c) := HB3.out.cell 7
      have fR := HB3.out.frozen 7
      have hOf := HO3.out.from (k := 16) (by omega)
      obtain ⟨bk, off, eA⟩ : ∃ bk off, A = some ⟨bk, off, none⟩ := by
        rcases HO3.out.2.2.2 with ⟨_, e⟩ | ⟨g', off, t, cur, e, _⟩
        · omega
        · exact ⟨g', off, e⟩
      have hA2 := blkOf_from A 16 c
      subst eA
      simp only [Option.map_some, add_zero_spot] at hOf hA2
      clear hB3 hG3 HB2 HO2 hK2
      by_cases hc16 : c = 16
      · rw [if_pos hc16, show c - 16 = 0 by omega] at hOf
        have hbA4 : blkOf (some (⟨bk, off, none⟩ : Addr)) ≠ some g := hbA
        go_wp2_with fail
        have HB4 : Hid (Blk (w3.setCell ⟨g, 7, none⟩ (.slice (some (⟨bk, off, none⟩ : Addr)) (n - 16) 0)) g 71 (PB r0 r1 s0 s1 j0 j1 j2 (.slice (some (⟨bk, off, none⟩ : Addr)) (n - 16) 0))) := HB3.out.set 7 _
        have HO4 : Hid (OwnAt (w3.setCell ⟨g, 7, none⟩ (.slice (some (⟨bk, off, none⟩ : Addr)) (n - 16) 0)) base (some (⟨bk, off, none⟩ : Addr)) (n - 16) 0 ((rem.drop 16).map b8)) := by
          unfold Hid; rw [List.map_drop]
          exact hOf.keeps (keeps_set _ _ _) (fun p hp e => hbA4 (by rw [hp]; exact congrArg some e))
        have hK4 : Keeps own w (w3.setCell ⟨g, 7, none⟩ (.slice (some (⟨bk, off, none⟩ : Addr)) (n - 16) 0)) := hK3.trans (keeps_set _ _ _) (fun i hi _ => hown1.out i hi)
        have HF4 : Hid (runF r0 r1 ((rem.drop 16).length / 16) ⟨j0, j1, j2⟩ (rem.drop 16) = F ∧ (rem.drop 16).drop (16 * ((rem.drop 16).length / 16)) = R) := by
          have hl := Hlen.out
          have e2 := HF.out
          rw [show rem.length / 16 = (rem.drop 16).length / 16 + 1 by rw [List.length_drop]; omega] at e2
          rw [runF, Hab.out] at e2
          refine ⟨e2.1, ?_⟩
          rw [List.drop_drop, ← e2.2]
          congr 1
          omega
        have hloc4 : blkOf (some (⟨bk, off, none⟩ : Addr)) = rb ∨ ∃ k, blkOf (some (⟨bk, off, none⟩ : Addr)) = some k ∧ w.heap.size ≤ k := hloc
        clear HB3 HO3 hK3 hOf
        go_step3
        refine ⟨rfl, ⟨j0, j1, j2⟩, some ⟨bk, off, none⟩, n - 16, 0, rem.drop 16, _, _, _, _, _, _, _, _, _, _, _, _, _, _, _, _, _, _, _, _, _, _, _, _, _, _, _, _, _, _, _, _, _, _, _, _, rfl, HB4, HO4, HF4, hbA4, hloc4, hK4⟩
      · rw [if_neg hc16] at hOf
        have hbA4 : blkOf (some (⟨bk, off + 16, none⟩ : Addr)) ≠ some g := hbA
        go_wp2_with fail
        have HB4 : Hid (Blk (w3.setCell ⟨g, 7, none⟩ (.slice (some (⟨bk, off + 16, none⟩ : Addr)) (n - 16) (c - 16))) g 71 (PB r0 r1 s0 s1 j0 j1 j2 (.slice (some (⟨bk, off + 16, none⟩ : Addr)) (n - 16) (c - 16)))) := HB3.out.set 7 _
        have HO4 : Hid (OwnAt (w3.setCell ⟨g, 7, none⟩ (.slice (some (⟨bk, off + 16, none⟩ : Addr)) (n - 16) (c - 16))) base (some (⟨bk, off + 16, none⟩ : Addr)) (n - 16) (c - 16) ((rem.drop 16).map b8)) := by
          unfold Hid; rw [List.map_drop]
          exact hOf.keeps (keeps_set _ _ _) (fun p hp e => hbA4 (by rw [hp]; exact congrArg some e))
        have hK4 : Keeps own w (w3.setCell ⟨g, 7, none⟩ (.slice (some (⟨bk, off + 16, none⟩ : Addr)) (n - 16) (c - 16))) := hK3.trans (keeps_set _ _ _) (fun i hi _ => hown1.out i hi)
        have HF4 : Hid (runF r0 r1 ((rem.drop 16).length / 16) ⟨j0, j1, j2⟩ (rem.drop 16) = F ∧ (rem.drop 16).drop (16 * ((rem.drop 16).length / 16)) = R) := by
          have hl := Hlen.out
          have e2 := HF.out
          rw [show rem.length / 16 = (rem.drop 16).length / 16 + 1 by rw [List.length_drop]; omega] at e2
          rw [runF, Hab.out] at e2
          refine ⟨e2.1, ?_⟩
          rw [List.drop_drop, ← e2.2]
          congr 1
          omega
        have hloc4 : blkOf (some (⟨bk, off + 16, none⟩ : Addr)) = rb ∨ ∃ k, blkOf (some (⟨bk, off + 16, none⟩ : Addr)) = some k ∧ w.heap.size ≤ k := hloc
        clear HB3 HO3 hK3 hOf
        go_step3
        refine ⟨rfl, ⟨j0, j1, j2⟩, some ⟨bk, off + 16, none⟩, n - 16, c - 16, rem.drop 16, _, _, _, _, _, _, _, _, _, _, _, _, _, _, _, _, _, _, _, _, _, _, _, _, _, _, _, _, _, _, _, _, _, _, _, _, rfl, HB4, HO4, HF4, hbA4, hloc4, hK4⟩
  · rintro a' W ⟨h, A, n, c, rem, u2, u3, u4, u5, u6, u7, u8, u9, u10, u11, u12, u13, u14, u15, u16, u17, u18, u19, u20, u21, u22, u23, u24, u25, u26, u27, u28, u29, u30, u31, u32, u33, u34, u35, u36, u37, rfl, HB, HO, HF, hbA, hloc, hK⟩
    have Hm : Hid (W.cell? ⟨g, 7, none⟩ = some (.slice A n c)) := HB.out.cell 7
    clear HB0 HO0 HSY cR fR HF0
    have hlen := HO.out.1
    rw [List.length_map] at hlen
    have hncap := HO.out.2.1
    have hcmx := HO.out.2.2.1
    unfold maxLen at hcmx
    have cR : W.cell? ⟨g, 7, none⟩ = some (.slice A n c) := HB.out.cell 7
    have Hlen := lib_hid hlen
    clear hlen
    by_cases hz : n < 16
    · have h0 : (n : Int) < 16 := by omega
      have hq : Hid (rem.length / 16 = 0) := by unfold Hid; have := Hlen.out; omega
      have hh : Hid (h = F) := by have := HF.out.1; rw [hq.out] at this; exact this
      have hr : Hid (rem = R) := by have := HF.out.2; rw [hq.out] at this; exact this
      go_wp2_with fail
      (try simp only [Exit.jump])
      refine bodyPost_ret (results_none rfl _ _ _) rfl ?_
      refine ⟨rfl, blkOf A, ⟨hbg, A, n, c, ?_, ?_, rfl, hbA⟩, hK, hloc⟩
      · rw [← hF1.out, ← hh.out]; exact HB.out
      · rw [← hF2.out, ← hr.out]; exact HO.out
    · have h0 : ¬ (n : Int) < 16 := by omega
      have HS : Hid (SB W A n c rem) := HO.out.row
      obtain ⟨e0, He0⟩ : ∃ x, Hid (halfA rem = x) := ⟨_, lib_hid rfl⟩
      obtain ⟨e1, He1⟩ : ∃ x, Hid (halfB rem = x) := ⟨_, lib_hid rfl⟩
      obtain ⟨⟨i0, i1, i2⟩, Hi⟩ : ∃ x, Hid (addH h e0 e1 1 = x) := ⟨_, lib_hid rfl⟩
      obtain ⟨⟨j0, j1, j2⟩, Hj⟩ : ∃ x, Hid (multF r0 r1 ⟨i0, i1, i2⟩ = x) := ⟨_, lib_hid rfl⟩
      have Hab : Hid (absorb r0 r1 h rem = ⟨j0, j1, j2⟩) := by unfold Hid absorb; rw [He0.out, He1.out, Hi.out, Hj.out]
      go_wp2_with fail
      refine (half_any A n c rem W HS.out (by omega)).mono ?_
      rintro e w1 ⟨rfl, hg1⟩
      rw [He0.out, He1.out]
      have HB1 := lib_hid (HB.out.grows hg1)
      have HO1 := lib_hid (HO.out.grows hg1)
      have hK1 : Keeps own w w1 := hK.trans (hg1.keeps own) (fun i hi _ => hi)
      clear cR HB HO hK hg1
      go_wp2_with fail
      refine (add_any1 g r0 r1 s0 s1 h.x h.y h.z (.slice A n c) e0 e1 w1 HB1.out).mono ?_
      rintro e w2 ⟨rfl, hG2, hB2⟩
      have hB2' : Blk w2 g 71 (PB r0 r1 s0 s1 i0 i1 i2 (.slice A n c)) := by
        have e1 := Hi.out
        unfold addH at e1
        simp only [Lim3.mk.injEq] at e1
        rw [e1.1, e1.2.1, e1.2.2] at hB2
        exact hB2
      have HB2 := lib_hid hB2'
      have HO2 := lib_hid (HO1.out.keeps (keeps_grown hG2) (fun p hp e => hbA (by rw [hp]; exact e.symm)))
      have hK2 : Keeps own w w2 := hK1.trans (keeps_grown hG2) (fun i hi _ => hown1.out i (Option.some.inj hi).symm)
      clear hB2 hB2' hG2 HB1 HO1 hK1
      go_wp2_with fail
      refine (multiply_any g r0 r1 s0 s1 i0 i1 i2 (.slice A n c) w2 HB2.out).mono ?_
      rintro e w3 ⟨rfl, hG3, hB3⟩
      rw [Hj.out] at hB3
      have HB3 := lib_hid hB3
      have HO3 := lib_hid (HO2.out.keeps (keeps_grown hG3) (fun p hp e => hbA (by rw [hp]; exact e.symm)))
      have hK3 : Keeps own w w3 := hK2.trans (keeps_grown hG3) (fun i hi _ => hown1.out i (Option.some.inj hi).symm)
      have cR : w3.cell? ⟨g, 7, none⟩ = some (.slice A n c) := HB3.out.cell 7
      have fR := HB3.out.frozen 7
      have hOf := HO3.out.from (k := 16) (by omega)
      obtain ⟨bk, off, eA⟩ : ∃ bk off, A = some ⟨bk, off, none⟩ := by
        rcases HO3.out.2.2.2 with ⟨_, e⟩ | ⟨g', off, t, cur, e, _⟩
        · omega
        · exact ⟨g', off, e⟩
      have hA2 := blkOf_from A 16 c
      subst eA
      simp only [Option.map_some, add_zero_spot] at hOf hA2
      clear hB3 hG3 HB2 HO2 hK2
      by_cases hc16 : c = 16
      · rw [if_pos hc16, show c - 16 = 0 by omega] at hOf
        have hbA4 : blkOf (some (⟨bk, off, none⟩ : Addr)) ≠ some g := hbA
        go_wp2_with fail
        have HB4 : Hid (Blk (w3.setCell ⟨g, 7, none⟩ (.slice (some (⟨bk, off, none⟩ : Addr)) (n - 16) 0)) g 71 (PB r0 r1 s0 s1 j0 j1 j2 (.slice (some (⟨bk, off, none⟩ : Addr)) (n - 16) 0))) := HB3.out.set 7 _
        have HO4 : Hid (OwnAt (w3.setCell ⟨g, 7, none⟩ (.slice (some (⟨bk, off, none⟩ : Addr)) (n - 16) 0)) base (some (⟨bk, off, none⟩ : Addr)) (n - 16) 0 ((rem.drop 16).map b8)) := by
          unfold Hid; rw [List.map_drop]
          exact hOf.keeps (keeps_set _ _ _) (fun p hp e => hbA4 (by rw [hp]; exact congrArg some e))
        have hK4 : Keeps own w (w3.setCell ⟨g, 7, none⟩ (.slice (some (⟨bk, off, none⟩ : Addr)) (n - 16) 0)) := hK3.trans (keeps_set _ _ _) (fun i hi _ => hown1.out i hi)
        have HF4 : Hid (runF r0 r1 ((rem.drop 16).length / 16) ⟨j0, j1, j2⟩ (rem.drop 16) = F ∧ (rem.drop 16).drop (16 * ((rem.drop 16).length / 16)) = R) := by
          have hl := Hlen.out
          have e2 := HF.out
          rw [show rem.length / 16 = (rem.drop 16).length / 16 + 1 by rw [List.length_drop]; omega] at e2
          rw [runF, Hab.out] at e2
          refine ⟨e2.1, ?_⟩
          rw [List.drop_drop, ← e2.2]
          congr 1
          omega
        have hloc4 : blkOf (some (⟨bk, off, none⟩ : Addr)) = rb ∨ ∃ k, blkOf (some (⟨bk, off, none⟩ : Addr)) = some k ∧ w.heap.size ≤ k := hloc
        clear HB3 HO3 hK3 hOf
        have hmu : Hid (mu g (w3.setCell ⟨g, 7, none⟩ (.slice (some ⟨bk, off, none⟩) (n - 16) (0))) < mu g W) := by
          unfold Hid mu
          rw [HB4.out.cell 7, Hm.out]
          show n - 16 < n
          omega
        go_step3
        refine ⟨rfl, ⟨⟨j0, j1, j2⟩, some ⟨bk, off, none⟩, n - 16, 0, rem.drop 16, _, _, _, _, _, _, _, _, _, _, _, _, _, _, _, _, _, _, _, _, _, _, _, _, _, _, _, _, _, _, _, _, _, _, _, _, rfl, HB4, HO4, HF4, hbA4, hloc4, hK4⟩, hmu.out⟩
      · rw [if_neg hc16] at hOf
        have hbA4 : blkOf (some (⟨bk, off + 16, none⟩ : Addr)) ≠ some g := hbA
        go_wp2_with fail
        have HB4 : Hid (Blk (w3.setCell ⟨g, 7, none⟩ (.slice (some (⟨bk, off + 16, none⟩ : Addr)) (n - 16) (c - 16))) g 71 (PB r0 r1 s0 s1 j0 j1 j2 (.slice (some (⟨bk, off + 16, none⟩ : Addr)) (n - 16) (c - 16)))) := HB3.out.set 7 _
        have HO4 : Hid (OwnAt (w3.setCell ⟨g, 7, none⟩ (.slice (some (⟨bk, off + 16, none⟩ : Addr)) (n - 16) (c - 16))) base (some (⟨bk, off + 16, none⟩ : Addr)) (n - 16) (c - 16) ((rem.drop 16).map b8)) := by
          unfold Hid; rw [List.map_drop]
          exact hOf.keeps (keeps_set _ _ _) (fun p hp e => hbA4 (by rw [hp]; exact congrArg some e))
        have hK4 : Keeps own w (w3.setCell ⟨g, 7, none⟩ (.slice (some (⟨bk, off + 16, none⟩ : Addr)) (n - 16) (c - 16))) := hK3.trans (keeps_set _ _ _) (fun i hi _ => hown1.out i hi)
        have HF4 : Hid (runF r0 r1 ((rem.drop 16).length / 16) ⟨j0, j1, j2⟩ (rem.drop 16) = F ∧ (rem.drop 16).drop (16 * ((rem.drop 16).length / 16)) = R) := by
          have hl := Hlen.out
          have e2 := HF.out
          rw [show rem.length / 16 = (rem.drop 16).length / 16 + 1 by rw [List.length_drop]; omega] at e2
          rw [runF, Hab.out] at e2
          refine ⟨e2.1, ?_⟩
          rw [List.drop_drop, ← e2.2]
          congr 1
          omega
        have hloc4 : blkOf (some (⟨bk, off + 16, none⟩ : Addr)) = rb ∨ ∃ k, blkOf (some (⟨bk, off + 16, none⟩ : Addr)) = some k ∧ w.heap.size ≤ k := hloc
        clear HB3 HO3 hK3 hOf
        have hmu : Hid (mu g (w3.setCell ⟨g, 7, none⟩ (.slice (some ⟨bk, off + 16, none⟩) (n - 16) (c - 16))) < mu g W) := by
          unfold Hid mu
          rw [HB4.out.cell 7, Hm.out]
          show n - 16 < n
          omega
        go_step3
        refine ⟨rfl, ⟨⟨j0, j1, j2⟩, some ⟨bk, off + 16, none⟩, n - 16, c - 16, rem.drop 16, _, _, _, _, _, _, _, _, _, _, _, _, _, _, _, _, _, _, _, _, _, _, _, _, _, _, _, _, _, _, _, _, _, _, _, _, rfl, HB4, HO4, HF4, hbA4, hloc4, hK4⟩, hmu.out⟩

end Go.Proofs.Ytgolndfimhogoaa
