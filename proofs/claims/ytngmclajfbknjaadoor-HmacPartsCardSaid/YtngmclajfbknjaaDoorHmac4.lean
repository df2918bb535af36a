/-
  palfreyref07.Sum.
-/
import Derived.Test.YtngmclajfbknjaaDoorHmac3
import Derived.Test.YtngmclajfbknjaaDoorSha13
import Derived.Deep.Cut
import Derived.BigRegion
import Derived.RegionTactic
import Derived.Outline
namespace Go.Proofs.YtngmclajfbknjaaDoor
open Go Go.RowKit
set_option linter.unusedSimpArgs false
set_option linter.unusedVariables false


attribute [local irreducible] startV schedF moreW firstW blockF roundsF sumsF outF outW padS sumS shaK ShaOf HC keyB hmF
theorem xorK_step (KB : List UInt8) (i : Nat) (x : UInt8) (h : KB[i]? = some x) : xorK (KB.take i) 54 ++ [x ^^^ 54] = xorK (KB.take (i + 1)) 54 ∧ xorK (KB.take i) 92 ++ [x ^^^ 92] = xorK (KB.take (i + 1)) 92 := by
  rw [List.take_add_one, h]
  unfold xorK
  simp
theorem xorK_nil (y : UInt8) : xorK [] y = [] := rfl
attribute [local irreducible] xorK
set_option maxRecDepth 100000 in
set_option maxHeartbeats 4000000 in
theorem refHmac_any (key bs : List UInt8) (A B : Option Addr) (n c mb d : Nat) (w : World) (hs : SB w A n c key) (hb : SB w B mb d bs) (hn : n ≤ 1000000) (hm : mb ≤ 900000) :
    Calls Tryd.prog 8 #[.slice A n c, .slice B mb d] w (NewB 5 w (hmF shaK (keyB shaK key) bs)) := by
  have hlen := hs.len
  have ho := World.ownsRow_lit (base := w.heap.size) (e := 5) (size := 1) w #[] 0 (Nat.le_refl _) (by unfold maxLen; omega) rfl
  have hr := hs.grows ((Grows.refl w).alloc (.cells #[] 5))
  have HH := lib_hid (And.intro hr ho)
  have Hb := lib_hid hb
  have Hlen := lib_hid hlen
  have Hm := lib_hid hm
  obtain ⟨KB, HKB0, HKBl⟩ : ∃ x, Hid (keyB shaK key = x) ∧ Hid (x.length = 64) := ⟨_, lib_hid rfl, lib_hid (keyB_len _ _)⟩
  have HKB1 : Hid (if 64 < n then sumS shaK key ++ List.replicate 32 0 = KB else key ++ List.replicate (64 - key.length) 0 = KB) := by
    unfold Hid
    rw [← HKB0.out, ← hlen]
    split
    · unfold keyB; rw [if_pos (by omega)]
    · unfold keyB; rw [if_neg (by omega)]
  rw [HKB0.out]
  clear ho hr hs hb hlen hm
  go_enter Tryd.func8, Tryd.ntmps8
  go_upto_region 2 with (at_builtin; refine wpList_append rfl _ _ 22 rfl w.heap.size 5 (.int .u8 0) 1 Tryd.underlying22 Tryd.infoByte rfl _ 0 [] rfl HH.out.2 _ _ _ (key.map b8) rfl HH.out.1 (b8_one key) (by omega) (by omega) (by simp) ?_; intro A3 c3 w3 ho3 hb3 hg3)
  simp only [Nat.zero_add, List.nil_append] at ho3
  have hgw : Grows w w3 := Below.trans ((Grows.refl w).alloc (.cells #[] 5)) hb3
  have HS3 := lib_hid (SB.own ho3)
  have HSB3 := lib_hid (Hb.out.grows hgw)
  have Hgw := lib_hid hgw
  have Hn := lib_hid hn
  clear HH ho3 hb3 hg3 hgw Hb hn
  try simp only [Nat.zero_add]
  have HL : Hid True := trivial
  by_cases h64 : 64 < n
  · have h64i : (n : Int) > 64 := by omega
    rw [if_pos h64] at HKB1
    clear h64
    go_wp2_with fail
    refine (refSumS_any key A3 n c3 w3 HS3.out Hn.out).mono ?_
    rintro e4 w4 ⟨A5, n5, c5, hn5, rfl, hg4, ho4⟩
    obtain ⟨kk, Hkk, Hkl0⟩ : ∃ x : List UInt8, Hid (sumS shaK key = x) ∧ Hid (x.length = 32) := ⟨_, lib_hid rfl, lib_hid (sumS_len _ _)⟩
    rw [Hkk.out] at hn5 ho4 HKB1
    obtain ⟨m, hm, Hkl⟩ : ∃ m, n5 = m ∧ Hid (kk.length = m) := ⟨_, rfl, hn5.out.symm⟩
    subst hm
    have HKB : Hid (kk ++ List.replicate (64 - kk.length) 0 = KB) := by unfold Hid; rw [Hkl0.out]; exact HKB1.out
    have Hm64 : Hid (n5 ≤ 64) := by have := Hkl.out; have := Hkl0.out; unfold Hid; omega
    obtain ⟨wb, HWb⟩ : ∃ x, Hid (w4 = x) := ⟨_, lib_hid rfl⟩
    rw [HWb.out] at hg4 ho4 ⊢
    have HS5 := lib_hid (SB.own ho4)
    have HSB := lib_hid (HSB3.out.grows hg4)
    have Hwb := lib_hid (Hgw.out.trans hg4)
    clear ho4 hg4 hn5 HKB1 HWb HS3 HSB3 Hgw h64i
    have Hz1 : Hid (OwnAt wb wb.heap.size none 0 0 ((xorK (KB.take 0) 54).map b8)) := by rw [List.take_zero, xorK_nil]; exact OwnAt.nil _ _
    have Hz2 : Hid (OwnAt wb wb.heap.size none 0 0 ((xorK (KB.take 0) 92).map b8)) := by rw [List.take_zero, xorK_nil]; exact OwnAt.nil _ _
    go_wp2
    go_loopw [6, 7, 8] (fun v6 v7 iv wr => ∃ (i c1 c2 : Nat) (A1 A2 : Option Addr), i ≤ 64 ∧ iv = .int .i64 (i : Int) ∧ v6 = .slice A1 i c1 ∧ v7 = .slice A2 i c2 ∧ Grows wb wr ∧ Hid (OwnAt wr wb.heap.size A1 i c1 ((xorK (KB.take i) 54).map b8)) ∧ Hid (OwnAt wr wb.heap.size A2 i c2 ((xorK (KB.take i) 92).map b8)) ∧ Hid (∀ b, blkOf A1 = some b → blkOf A2 ≠ some b)) (fun _ _ iv _ => 64 - (intOf iv).toNat)
    case atStart => exact ⟨0, 0, 0, none, none, by omega, rfl, rfl, rfl, Grows.refl _, Hz1, Hz2, lib_hid (fun b h => by cases h)⟩
    case round =>
      obtain ⟨i, c1, c2, A1, A2, hi, rfl, rfl, rfl, hgr, HA, HB, Hne⟩ := hrel
      by_cases hlt : i < 64
      · have hki : (i : Int) < 64 := by omega
        have Hlt := lib_hid hlt
        by_cases hm : i < n5
        · have hmi : (i : Int) < (n5 : Int) := by omega
          obtain ⟨x, hx, hxk⟩ : ∃ x, KB[i]? = some x ∧ kk[i]? = some x := by
            have hl := Hkl.out
            have h5 : kk[i]? = some (kk[i]'(by omega)) := List.getElem?_eq_getElem (by omega)
            exact ⟨_, by rw [← HKB.out, List.getElem?_append_left (by omega)]; exact h5, h5⟩
          obtain ⟨b5, o5, eA5, _, hc5⟩ := (HS5.out.grows hgr).2.2.2.2 (by omega)
          subst eA5
          have d0 : wr.cell? ⟨b5, o5 + i, none⟩ = some (.int .u8 (x.toNat : Int)) := by rw [hc5 i hm, List.getElem?_map, hxk]; rfl
          have Hxx := lib_hid hx
          have hib : (i : Int) ≤ 64 := by omega
          clear hc5 hxk hx hi hlt hm
          have Hx0 := lib_hid (xorK_step KB i x (Hxx.out))
          obtain ⟨y1, Hy1, hy1⟩ : ∃ y : UInt8, Hid (x ^^^ 54 = y) ∧ bits .xor .u8 (x.toNat : Int) 54 = (y.toNat : Int) := ⟨_, lib_hid rfl, u8_xor x 54⟩
          obtain ⟨y2, Hy2, hy2⟩ : ∃ y : UInt8, Hid (x ^^^ 92 = y) ∧ bits .xor .u8 (x.toNat : Int) 92 = (y.toNat : Int) := ⟨_, lib_hid rfl, u8_xor x 92⟩
          have Hx : Hid (xorK (KB.take i) 54 ++ [y1] = xorK (KB.take (i + 1)) 54 ∧ xorK (KB.take i) 92 ++ [y2] = xorK (KB.take (i + 1)) 92) := by rw [← Hy1.out, ← Hy2.out]; exact Hx0.out
          have H1 := lib_hid (one_rowH wr 5 y1)
          have hg1 : Grows wr (wr.alloc (.cells #[.int .u8 (y1.toNat : Int)] 5)) := (Grows.refl _).alloc _
          have HA1 := lib_hid (HA.out.grows hg1)
          have hle1 : wb.heap.size ≤ (wr.alloc (.cells #[.int .u8 (y1.toNat : Int)] 5)).heap.size := Nat.le_trans hgr.le hg1.le
          have HB1 : Hid (∀ w3, (wr.alloc (.cells #[.int .u8 (y1.toNat : Int)] 5)).grownBy w3 (blkOf A1) → OwnAt (w3.alloc (.cells #[.int .u8 (y2.toNat : Int)] 5)) wb.heap.size A2 i c2 ((xorK (KB.take i) 92).map b8)) := fun w3 h => ((HB.out.grows hg1).keeps (keeps_grown h) (fun p hp e => Hne.out _ e (by rw [hp]; rfl))).grows ((Grows.refl w3).alloc _)
          have H2 : Hid (∀ w3 : World, SB (w3.alloc (.cells #[.int .u8 (y2.toNat : Int)] 5)) (some ⟨w3.heap.size, 0, none⟩) 1 1 [y2]) := fun w3 => one_rowH w3 5 y2
          have Hlt2 := lib_hid (And.intro HA.out.lt HB.out.lt)
          have Hgr := lib_hid (hgr.trans hg1)
          have Hbs := lib_hid (And.intro HA.out.base_le HB.out.base_le)
          have Hsz1 : Hid ((wr.alloc (.cells #[.int .u8 (y1.toNat : Int)] 5)).heap.size = wr.heap.size + 1) := by unfold Hid; simp
          clear HA HB hgr hg1 Hx0
          go_upto_region 7 with (first
            | (at_builtin; refine wpList_append_at rfl _ _ 22 22 rfl wb.heap.size 5 (.int .u8 0) 1 Tryd.underlying22 Tryd.infoByte rfl A1 i c1 _ rfl HA1.out (.slice (some ⟨wr.heap.size, 0, none⟩) 1 1) rfl 1 _ (Row.src H1.out Tryd.underlying22 (b8_one [y1])) (by omega) (by omega) hle1 ?_; intro A3 c3 w3 hO3 hG3 hl3)
            | (at_builtin; refine wpList_append_at rfl _ _ 22 22 rfl wb.heap.size 5 (.int .u8 0) 1 Tryd.underlying22 Tryd.infoByte rfl A2 i c2 _ rfl (HB1.out w3 hG3) (.slice (some ⟨w3.heap.size, 0, none⟩) 1 1) rfl 1 _ (Row.src (H2.out w3) Tryd.underlying22 (b8_one [y2])) (by omega) (by omega) (Nat.le_trans hle1 (Nat.le_trans hG3.size (by simp))) ?_; intro A4 c4 w5 hO5 hG5 hl5))
          have Hw4 : Hid ((w3.alloc (.cells #[.int .u8 (y2.toNat : Int)] 5)).heap.size = w3.heap.size + 1) := by unfold Hid; simp
          have hG3s := hG3.size
          have HO3 : Hid (OwnAt w5 wb.heap.size A3 (i + 1) c3 ((xorK (KB.take (i + 1)) 54).map b8)) := by
            rw [← List.map_append, Hx.out.1] at hO3
            refine (hO3.grows ((Grows.refl w3).alloc _)).keeps (keeps_grown hG5) (fun p hp e => ?_)
            rcases hl3 with h | h
            · exact Hne.out p.block (by rw [← h, hp]; rfl) e.symm.symm
            · have h5 : p.block = (wr.alloc (.cells #[.int .u8 (y1.toNat : Int)] 5)).heap.size := by have := h; rw [hp] at this; exact Option.some.inj this
              obtain ⟨q, hq, hqb⟩ := Option.map_eq_some_iff.1 e
              have h6 := Hlt2.out.2 q hq
              have := Hsz1.out
              omega
          have HO5 : Hid (OwnAt w5 wb.heap.size A4 (i + 1) c4 ((xorK (KB.take (i + 1)) 92).map b8)) := by
            rw [← List.map_append, Hx.out.2] at hO5
            exact hO5
          have Hne5 : Hid (∀ b, blkOf A3 = some b → blkOf A4 ≠ some b) := fun b hb e => by
            have hA1 : blkOf A1 = some b → b < wr.heap.size := fun h => by obtain ⟨q, hq, hqb⟩ := Option.map_eq_some_iff.1 h; have := Hlt2.out.1 q hq; omega
            have hA2 : blkOf A2 = some b → b < wr.heap.size := fun h => by obtain ⟨q, hq, hqb⟩ := Option.map_eq_some_iff.1 h; have := Hlt2.out.2 q hq; omega
            have := Hsz1.out; have := Hw4.out
            rcases hl3 with h | h <;> rcases hl5 with h2 | h2
            · exact Hne.out b (by rw [← h]; exact hb) (by rw [← h2]; exact e)
            · have := hA1 (by rw [← h]; exact hb); rw [h2] at e; have := Option.some.inj e; omega
            · have := hA2 (by rw [← h2]; exact e); rw [h] at hb; have := Option.some.inj hb; omega
            · rw [h] at hb; rw [h2] at e; have := Option.some.inj hb; have := Option.some.inj e; omega
          have hgr5 : Grows wb w5 := by
            have h3 : Grows wb w3 := Hgr.out.grown hG3 (fun k hk => by obtain ⟨q, hq, hqb⟩ := Option.map_eq_some_iff.1 hk; have := Hbs.out.1 q hq; omega)
            exact (h3.alloc _).grown hG5 (fun k hk => by obtain ⟨q, hq, hqb⟩ := Option.map_eq_some_iff.1 hk; have := Hbs.out.2 q hq; omega)
          have Hgr5 := lib_hid hgr5
          clear hO3 hG3 hl3 hO5 hG5 hl5 HA1 HB1 H1 H2 hle1 Hne hG3s hgr5
          go_wp2
          go_roundw
          case rel => exact ⟨i + 1, c3, c4, A3, A4, by have := Hlt.out; omega, by go_num, rfl, rfl, Hgr5.out, HO3, HO5, Hne5⟩
          case measure => have := Hlt.out; simp [intOf]; omega
        · have hmi : ¬ (i : Int) < (n5 : Int) := by omega
          have Hxx : Hid (KB[i]? = some 0) := by
            unfold Hid
            rw [← HKB.out, List.getElem?_append_right (by rw [Hkl.out]; omega), List.getElem?_replicate, if_pos (by rw [Hkl.out]; omega)]
          have hib : (i : Int) ≤ 64 := by omega
          clear hi hlt hm
          have Hx0 := lib_hid (xorK_step KB i 0 (Hxx.out))
          obtain ⟨y1, Hy1, hy1⟩ : ∃ y : UInt8, Hid (0 ^^^ 54 = y) ∧ bits .xor .u8 0 54 = (y.toNat : Int) := ⟨_, lib_hid rfl, u8_xor 0 54⟩
          obtain ⟨y2, Hy2, hy2⟩ : ∃ y : UInt8, Hid (0 ^^^ 92 = y) ∧ bits .xor .u8 0 92 = (y.toNat : Int) := ⟨_, lib_hid rfl, u8_xor 0 92⟩
          have Hx : Hid (xorK (KB.take i) 54 ++ [y1] = xorK (KB.take (i + 1)) 54 ∧ xorK (KB.take i) 92 ++ [y2] = xorK (KB.take (i + 1)) 92) := by rw [← Hy1.out, ← Hy2.out]; exact Hx0.out
          have H1 := lib_hid (one_rowH wr 5 y1)
          have hg1 : Grows wr (wr.alloc (.cells #[.int .u8 (y1.toNat : Int)] 5)) := (Grows.refl _).alloc _
          have HA1 := lib_hid (HA.out.grows hg1)
          have hle1 : wb.heap.size ≤ (wr.alloc (.cells #[.int .u8 (y1.toNat : Int)] 5)).heap.size := Nat.le_trans hgr.le hg1.le
          have HB1 : Hid (∀ w3, (wr.alloc (.cells #[.int .u8 (y1.toNat : Int)] 5)).grownBy w3 (blkOf A1) → OwnAt (w3.alloc (.cells #[.int .u8 (y2.toNat : Int)] 5)) wb.heap.size A2 i c2 ((xorK (KB.take i) 92).map b8)) := fun w3 h => ((HB.out.grows hg1).keeps (keeps_grown h) (fun p hp e => Hne.out _ e (by rw [hp]; rfl))).grows ((Grows.refl w3).alloc _)
          have H2 : Hid (∀ w3 : World, SB (w3.alloc (.cells #[.int .u8 (y2.toNat : Int)] 5)) (some ⟨w3.heap.size, 0, none⟩) 1 1 [y2]) := fun w3 => one_rowH w3 5 y2
          have Hlt2 := lib_hid (And.intro HA.out.lt HB.out.lt)
          have Hgr := lib_hid (hgr.trans hg1)
          have Hbs := lib_hid (And.intro HA.out.base_le HB.out.base_le)
          have Hsz1 : Hid ((wr.alloc (.cells #[.int .u8 (y1.toNat : Int)] 5)).heap.size = wr.heap.size + 1) := by unfold Hid; simp
          clear HA HB hgr hg1 Hx0
          go_upto_region 7 with (first
            | (at_builtin; refine wpList_append_at rfl _ _ 22 22 rfl wb.heap.size 5 (.int .u8 0) 1 Tryd.underlying22 Tryd.infoByte rfl A1 i c1 _ rfl HA1.out (.slice (some ⟨wr.heap.size, 0, none⟩) 1 1) rfl 1 _ (Row.src H1.out Tryd.underlying22 (b8_one [y1])) (by omega) (by omega) hle1 ?_; intro A3 c3 w3 hO3 hG3 hl3)
            | (at_builtin; refine wpList_append_at rfl _ _ 22 22 rfl wb.heap.size 5 (.int .u8 0) 1 Tryd.underlying22 Tryd.infoByte rfl A2 i c2 _ rfl (HB1.out w3 hG3) (.slice (some ⟨w3.heap.size, 0, none⟩) 1 1) rfl 1 _ (Row.src (H2.out w3) Tryd.underlying22 (b8_one [y2])) (by omega) (by omega) (Nat.le_trans hle1 (Nat.le_trans hG3.size (by simp))) ?_; intro A4 c4 w5 hO5 hG5 hl5))
          have Hw4 : Hid ((w3.alloc (.cells #[.int .u8 (y2.toNat : Int)] 5)).heap.size = w3.heap.size + 1) := by unfold Hid; simp
          have hG3s := hG3.size
          have HO3 : Hid (OwnAt w5 wb.heap.size A3 (i + 1) c3 ((xorK (KB.take (i + 1)) 54).map b8)) := by
            rw [← List.map_append, Hx.out.1] at hO3
            refine (hO3.grows ((Grows.refl w3).alloc _)).keeps (keeps_grown hG5) (fun p hp e => ?_)
            rcases hl3 with h | h
            · exact Hne.out p.block (by rw [← h, hp]; rfl) e.symm.symm
            · have h5 : p.block = (wr.alloc (.cells #[.int .u8 (y1.toNat : Int)] 5)).heap.size := by have := h; rw [hp] at this; exact Option.some.inj this
              obtain ⟨q, hq, hqb⟩ := Option.map_eq_some_iff.1 e
              have h6 := Hlt2.out.2 q hq
              have := Hsz1.out
              omega
          have HO5 : Hid (OwnAt w5 wb.heap.size A4 (i + 1) c4 ((xorK (KB.take (i + 1)) 92).map b8)) := by
            rw [← List.map_append, Hx.out.2] at hO5
            exact hO5
          have Hne5 : Hid (∀ b, blkOf A3 = some b → blkOf A4 ≠ some b) := fun b hb e => by
            have hA1 : blkOf A1 = some b → b < wr.heap.size := fun h => by obtain ⟨q, hq, hqb⟩ := Option.map_eq_some_iff.1 h; have := Hlt2.out.1 q hq; omega
            have hA2 : blkOf A2 = some b → b < wr.heap.size := fun h => by obtain ⟨q, hq, hqb⟩ := Option.map_eq_some_iff.1 h; have := Hlt2.out.2 q hq; omega
            have := Hsz1.out; have := Hw4.out
            rcases hl3 with h | h <;> rcases hl5 with h2 | h2
            · exact Hne.out b (by rw [← h]; exact hb) (by rw [← h2]; exact e)
            · have := hA1 (by rw [← h]; exact hb); rw [h2] at e; have := Option.some.inj e; omega
            · have := hA2 (by rw [← h2]; exact e); rw [h] at hb; have := Option.some.inj hb; omega
            · rw [h] at hb; rw [h2] at e; have := Option.some.inj hb; have := Option.some.inj e; omega
          have hgr5 : Grows wb w5 := by
            have h3 : Grows wb w3 := Hgr.out.grown hG3 (fun k hk => by obtain ⟨q, hq, hqb⟩ := Option.map_eq_some_iff.1 hk; have := Hbs.out.1 q hq; omega)
            exact (h3.alloc _).grown hG5 (fun k hk => by obtain ⟨q, hq, hqb⟩ := Option.map_eq_some_iff.1 hk; have := Hbs.out.2 q hq; omega)
          have Hgr5 := lib_hid hgr5
          clear hO3 hG3 hl3 hO5 hG5 hl5 HA1 HB1 H1 H2 hle1 Hne hG3s hgr5
          go_wp2
          go_roundw
          case rel => exact ⟨i + 1, c3, c4, A3, A4, by have := Hlt.out; omega, by go_num, rfl, rfl, Hgr5.out, HO3, HO5, Hne5⟩
          case measure => have := Hlt.out; simp [intOf]; omega
      · have hki : ¬ (i : Int) < 64 := by omega
        have hi64 : i = 64 := by omega
        rw [hi64, List.take_of_length_le (by rw [HKBl.out]; omega)] at HA HB
        have HI : Hid (i = 64) := hi64
        have hHS : Hid (SB wr B mb d bs) := (HSB.out.grows hgr)
        have HA2 : Hid (OwnAt wr wb.heap.size A1 64 c1 ((xorK KB 54).map b8)) := HA
        have HB2 : Hid (OwnAt wr wb.heap.size A2 64 c2 ((xorK KB 92).map b8)) := HB
        clear HA HB hi hlt
        subst hi64
        have hlew := hgr.le
        go_wp2_with (at_builtin; refine wpList_append_at rfl _ _ 22 22 rfl wb.heap.size 5 (.int .u8 0) 1 Tryd.underlying22 Tryd.infoByte rfl A1 64 c1 _ rfl HA2.out (.slice B mb d) rfl mb _ (Row.src hHS.out Tryd.underlying22 (b8_one bs)) (by have := Hm.out; omega) (by omega) hlew ?_; intro A6 c6 w6 hO6 hG6 hl6; have HO6 : Hid (SB w6 A6 (64 + mb) c6 (xorK KB 54 ++ bs)) := (by rw [← List.map_append] at hO6; exact hO6.row); have HB6 : Hid (OwnAt w6 wb.heap.size A2 64 c2 ((xorK KB 92).map b8)) := HB2.out.keeps (keeps_grown hG6) (fun p hp e => Hne.out _ e (by rw [hp]; rfl)); have Hg6 : Hid (Grows wb w6) := hgr.grown hG6 (fun k hk => by obtain ⟨q, hq, hqb⟩ := Option.map_eq_some_iff.1 hk; have := HA2.out.base_le q hq; omega); clear hO6 hG6 hl6)
        refine (refSumS_any (xorK KB 54 ++ bs) A6 (64 + mb) c6 w6 HO6.out (by have := Hm.out; omega)).mono ?_
        rintro e7 w7 ⟨A7, n7, c7, hn7, rfl, hg7, ho7⟩
        have HS7 := lib_hid (SB.own ho7)
        have hn32 : n7 = 32 := by rw [hn7.out]; exact sumS_len _ _
        have HB7 := lib_hid (HB6.out.grows hg7)
        have hle7 := (Hg6.out.trans hg7).le
        have Hg7 := lib_hid (Hg6.out.trans hg7)
        subst hn32
        obtain ⟨is, His⟩ : ∃ x, Hid (sumS shaK (xorK KB 54 ++ bs) = x) := ⟨_, lib_hid rfl⟩
        rw [His.out] at HS7
        clear ho7 hn7 hg7 HO6 HB6 Hg6 HA2 HB2 hHS Hne hlew hgr
        go_wp2_with (at_builtin; refine wpList_append_at rfl _ _ 22 22 rfl wb.heap.size 5 (.int .u8 0) 1 Tryd.underlying22 Tryd.infoByte rfl A2 64 c2 _ rfl HB7.out (.slice A7 32 c7) rfl 32 _ (Row.src HS7.out Tryd.underlying22 (b8_one is)) (by omega) (by omega) hle7 ?_; intro A8 c8 w8 hO8 hG8 hl8; have HO8 : Hid (SB w8 A8 96 c8 (xorK KB 92 ++ is)) := (by rw [← List.map_append] at hO8; exact hO8.row); have Hg8 : Hid (Grows wb w8) := Hg7.out.grown hG8 (fun k hk => by obtain ⟨q, hq, hqb⟩ := Option.map_eq_some_iff.1 hk; have := HB7.out.base_le q hq; omega); clear hO8 hG8 hl8)
        refine (refSumS_any (xorK KB 92 ++ is) A8 96 c8 w8 HO8.out (by omega)).mono ?_
        rintro e9 w9 ⟨A9, n9, c9, hn9, rfl, hg9, ho9⟩
        have HT : Hid (hmF shaK KB bs = sumS shaK (xorK KB 92 ++ is)) := by unfold Hid hmF; rw [His.out]
        have Hf := lib_hid (And.intro hn9.out (And.intro ho9 ((Hwb.out.trans Hg8.out).trans hg9)))
        clear hn9 ho9 hg9
        go_wp2
        go_ret
        rw [HT.out]
        exact newB_mk rfl Hf.out.1 Hf.out.2.2 (own_base Hf.out.2.1 (Hwb.out.trans Hg8.out).le)
  · have h64i : ¬ (n : Int) > 64 := by omega
    rw [if_neg h64] at HKB1
    have HKB : Hid (key ++ List.replicate (64 - key.length) 0 = KB) := HKB1
    have Hm64 : Hid (n ≤ 64) := by unfold Hid; omega
    clear h64
    obtain ⟨wb, HWb⟩ : ∃ x, Hid (w3 = x) := ⟨_, lib_hid rfl⟩
    rw [HWb.out] at HS3 HSB3 Hgw ⊢
    clear HWb HKB1
    have Hz1 : Hid (OwnAt wb wb.heap.size none 0 0 ((xorK (KB.take 0) 54).map b8)) := by rw [List.take_zero, xorK_nil]; exact OwnAt.nil _ _
    have Hz2 : Hid (OwnAt wb wb.heap.size none 0 0 ((xorK (KB.take 0) 92).map b8)) := by rw [List.take_zero, xorK_nil]; exact OwnAt.nil _ _
    go_wp2
    go_loopw [6, 7, 8] (fun v6 v7 iv wr => ∃ (i c1 c2 : Nat) (A1 A2 : Option Addr), i ≤ 64 ∧ iv = .int .i64 (i : Int) ∧ v6 = .slice A1 i c1 ∧ v7 = .slice A2 i c2 ∧ Grows wb wr ∧ Hid (OwnAt wr wb.heap.size A1 i c1 ((xorK (KB.take i) 54).map b8)) ∧ Hid (OwnAt wr wb.heap.size A2 i c2 ((xorK (KB.take i) 92).map b8)) ∧ Hid (∀ b, blkOf A1 = some b → blkOf A2 ≠ some b)) (fun _ _ iv _ => 64 - (intOf iv).toNat)
    case atStart => exact ⟨0, 0, 0, none, none, by omega, rfl, rfl, rfl, Grows.refl _, Hz1, Hz2, lib_hid (fun b h => by cases h)⟩
    case round =>
      obtain ⟨i, c1, c2, A1, A2, hi, rfl, rfl, rfl, hgr, HA, HB, Hne⟩ := hrel
      by_cases hlt : i < 64
      · have hki : (i : Int) < 64 := by omega
        have Hlt := lib_hid hlt
        by_cases hm : i < n
        · have hmi : (i : Int) < (n : Int) := by omega
          obtain ⟨x, hx, hxk⟩ : ∃ x, KB[i]? = some x ∧ key[i]? = some x := by
            have hl := Hlen.out
            have h5 : key[i]? = some (key[i]'(by omega)) := List.getElem?_eq_getElem (by omega)
            exact ⟨_, by rw [← HKB.out, List.getElem?_append_left (by omega)]; exact h5, h5⟩
          obtain ⟨b5, o5, eA5, _, hc5⟩ := (HS3.out.grows hgr).2.2.2.2 (by omega)
          subst eA5
          have d0 : wr.cell? ⟨b5, o5 + i, none⟩ = some (.int .u8 (x.toNat : Int)) := by rw [hc5 i hm, List.getElem?_map, hxk]; rfl
          have Hxx := lib_hid hx
          have hib : (i : Int) ≤ 64 := by omega
          clear hc5 hxk hx hi hlt hm
          have Hx0 := lib_hid (xorK_step KB i x (Hxx.out))
          obtain ⟨y1, Hy1, hy1⟩ : ∃ y : UInt8, Hid (x ^^^ 54 = y) ∧ bits .xor .u8 (x.toNat : Int) 54 = (y.toNat : Int) := ⟨_, lib_hid rfl, u8_xor x 54⟩
          obtain ⟨y2, Hy2, hy2⟩ : ∃ y : UInt8, Hid (x ^^^ 92 = y) ∧ bits .xor .u8 (x.toNat : Int) 92 = (y.toNat : Int) := ⟨_, lib_hid rfl, u8_xor x 92⟩
          have Hx : Hid (xorK (KB.take i) 54 ++ [y1] = xorK (KB.take (i + 1)) 54 ∧ xorK (KB.take i) 92 ++ [y2] = xorK (KB.take (i + 1)) 92) := by rw [← Hy1.out, ← Hy2.out]; exact Hx0.out
          have H1 := lib_hid (one_rowH wr 5 y1)
          have hg1 : Grows wr (wr.alloc (.cells #[.int .u8 (y1.toNat : Int)] 5)) := (Grows.refl _).alloc _
          have HA1 := lib_hid (HA.out.grows hg1)
          have hle1 : wb.heap.size ≤ (wr.alloc (.cells #[.int .u8 (y1.toNat : Int)] 5)).heap.size := Nat.le_trans hgr.le hg1.le
          have HB1 : Hid (∀ w3, (wr.alloc (.cells #[.int .u8 (y1.toNat : Int)] 5)).grownBy w3 (blkOf A1) → OwnAt (w3.alloc (.cells #[.int .u8 (y2.toNat : Int)] 5)) wb.heap.size A2 i c2 ((xorK (KB.take i) 92).map b8)) := fun w3 h => ((HB.out.grows hg1).keeps (keeps_grown h) (fun p hp e => Hne.out _ e (by rw [hp]; rfl))).grows ((Grows.refl w3).alloc _)
          have H2 : Hid (∀ w3 : World, SB (w3.alloc (.cells #[.int .u8 (y2.toNat : Int)] 5)) (some ⟨w3.heap.size, 0, none⟩) 1 1 [y2]) := fun w3 => one_rowH w3 5 y2
          have Hlt2 := lib_hid (And.intro HA.out.lt HB.out.lt)
          have Hgr := lib_hid (hgr.trans hg1)
          have Hbs := lib_hid (And.intro HA.out.base_le HB.out.base_le)
          have Hsz1 : Hid ((wr.alloc (.cells #[.int .u8 (y1.toNat : Int)] 5)).heap.size = wr.heap.size + 1) := by unfold Hid; simp
          clear HA HB hgr hg1 Hx0
          go_upto_region 7 with (first
            | (at_builtin; refine wpList_append_at rfl _ _ 22 22 rfl wb.heap.size 5 (.int .u8 0) 1 Tryd.underlying22 Tryd.infoByte rfl A1 i c1 _ rfl HA1.out (.slice (some ⟨wr.heap.size, 0, none⟩) 1 1) rfl 1 _ (Row.src H1.out Tryd.underlying22 (b8_one [y1])) (by omega) (by omega) hle1 ?_; intro A3 c3 w3 hO3 hG3 hl3)
            | (at_builtin; refine wpList_append_at rfl _ _ 22 22 rfl wb.heap.size 5 (.int .u8 0) 1 Tryd.underlying22 Tryd.infoByte rfl A2 i c2 _ rfl (HB1.out w3 hG3) (.slice (some ⟨w3.heap.size, 0, none⟩) 1 1) rfl 1 _ (Row.src (H2.out w3) Tryd.underlying22 (b8_one [y2])) (by omega) (by omega) (Nat.le_trans hle1 (Nat.le_trans hG3.size (by simp))) ?_; intro A4 c4 w5 hO5 hG5 hl5))
          have Hw4 : Hid ((w3.alloc (.cells #[.int .u8 (y2.toNat : Int)] 5)).heap.size = w3.heap.size + 1) := by unfold Hid; simp
          have hG3s := hG3.size
          have HO3 : Hid (OwnAt w5 wb.heap.size A3 (i + 1) c3 ((xorK (KB.take (i + 1)) 54).map b8)) := by
            rw [← List.map_append, Hx.out.1] at hO3
            refine (hO3.grows ((Grows.refl w3).alloc _)).keeps (keeps_grown hG5) (fun p hp e => ?_)
            rcases hl3 with h | h
            · exact Hne.out p.block (by rw [← h, hp]; rfl) e.symm.symm
            · have h5 : p.block = (wr.alloc (.cells #[.int .u8 (y1.toNat : Int)] 5)).heap.size := by have := h; rw [hp] at this; exact Option.some.inj this
              obtain ⟨q, hq, hqb⟩ := Option.map_eq_some_iff.1 e
              have h6 := Hlt2.out.2 q hq
              have := Hsz1.out
              omega
          have HO5 : Hid (OwnAt w5 wb.heap.size A4 (i + 1) c4 ((xorK (KB.take (i + 1)) 92).map b8)) := by
            rw [← List.map_append, Hx.out.2] at hO5
            exact hO5
          have Hne5 : Hid (∀ b, blkOf A3 = some b → blkOf A4 ≠ some b) := fun b hb e => by
            have hA1 : blkOf A1 = some b → b < wr.heap.size := fun h => by obtain ⟨q, hq, hqb⟩ := Option.map_eq_some_iff.1 h; have := Hlt2.out.1 q hq; omega
            have hA2 : blkOf A2 = some b → b < wr.heap.size := fun h => by obtain ⟨q, hq, hqb⟩ := Option.map_eq_some_iff.1 h; have := Hlt2.out.2 q hq; omega
            have := Hsz1.out; have := Hw4.out
            rcases hl3 with h | h <;> rcases hl5 with h2 | h2
            · exact Hne.out b (by rw [← h]; exact hb) (by rw [← h2]; exact e)
            · have := hA1 (by rw [← h]; exact hb); rw [h2] at e; have := Option.some.inj e; omega
            · have := hA2 (by rw [← h2]; exact e); rw [h] at hb; have := Option.some.inj hb; omega
            · rw [h] at hb; rw [h2] at e; have := Option.some.inj hb; have := Option.some.inj e; omega
          have hgr5 : Grows wb w5 := by
            have h3 : Grows wb w3 := Hgr.out.grown hG3 (fun k hk => by obtain ⟨q, hq, hqb⟩ := Option.map_eq_some_iff.1 hk; have := Hbs.out.1 q hq; omega)
            exact (h3.alloc _).grown hG5 (fun k hk => by obtain ⟨q, hq, hqb⟩ := Option.map_eq_some_iff.1 hk; have := Hbs.out.2 q hq; omega)
          have Hgr5 := lib_hid hgr5
          clear hO3 hG3 hl3 hO5 hG5 hl5 HA1 HB1 H1 H2 hle1 Hne hG3s hgr5
          go_wp2
          go_roundw
          case rel => exact ⟨i + 1, c3, c4, A3, A4, by have := Hlt.out; omega, by go_num, rfl, rfl, Hgr5.out, HO3, HO5, Hne5⟩
          case measure => have := Hlt.out; simp [intOf]; omega
        · have hmi : ¬ (i : Int) < (n : Int) := by omega
          have Hxx : Hid (KB[i]? = some 0) := by
            unfold Hid
            rw [← HKB.out, List.getElem?_append_right (by rw [Hlen.out]; omega), List.getElem?_replicate, if_pos (by rw [Hlen.out]; omega)]
          have hib : (i : Int) ≤ 64 := by omega
          clear hi hlt hm
          have Hx0 := lib_hid (xorK_step KB i 0 (Hxx.out))
          obtain ⟨y1, Hy1, hy1⟩ : ∃ y : UInt8, Hid (0 ^^^ 54 = y) ∧ bits .xor .u8 0 54 = (y.toNat : Int) := ⟨_, lib_hid rfl, u8_xor 0 54⟩
          obtain ⟨y2, Hy2, hy2⟩ : ∃ y : UInt8, Hid (0 ^^^ 92 = y) ∧ bits .xor .u8 0 92 = (y.toNat : Int) := ⟨_, lib_hid rfl, u8_xor 0 92⟩
          have Hx : Hid (xorK (KB.take i) 54 ++ [y1] = xorK (KB.take (i + 1)) 54 ∧ xorK (KB.take i) 92 ++ [y2] = xorK (KB.take (i + 1)) 92) := by rw [← Hy1.out, ← Hy2.out]; exact Hx0.out
          have H1 := lib_hid (one_rowH wr 5 y1)
          have hg1 : Grows wr (wr.alloc (.cells #[.int .u8 (y1.toNat : Int)] 5)) := (Grows.refl _).alloc _
          have HA1 := lib_hid (HA.out.grows hg1)
          have hle1 : wb.heap.size ≤ (wr.alloc (.cells #[.int .u8 (y1.toNat : Int)] 5)).heap.size := Nat.le_trans hgr.le hg1.le
          have HB1 : Hid (∀ w3, (wr.alloc (.cells #[.int .u8 (y1.toNat : Int)] 5)).grownBy w3 (blkOf A1) → OwnAt (w3.alloc (.cells #[.int .u8 (y2.toNat : Int)] 5)) wb.heap.size A2 i c2 ((xorK (KB.take i) 92).map b8)) := fun w3 h => ((HB.out.grows hg1).keeps (keeps_grown h) (fun p hp e => Hne.out _ e (by rw [hp]; rfl))).grows ((Grows.refl w3).alloc _)
          have H2 : Hid (∀ w3 : World, SB (w3.alloc (.cells #[.int .u8 (y2.toNat : Int)] 5)) (some ⟨w3.heap.size, 0, none⟩) 1 1 [y2]) := fun w3 => one_rowH w3 5 y2
          have Hlt2 := lib_hid (And.intro HA.out.lt HB.out.lt)
          have Hgr := lib_hid (hgr.trans hg1)
          have Hbs := lib_hid (And.intro HA.out.base_le HB.out.base_le)
          have Hsz1 : Hid ((wr.alloc (.cells #[.int .u8 (y1.toNat : Int)] 5)).heap.size = wr.heap.size + 1) := by unfold Hid; simp
          clear HA HB hgr hg1 Hx0
          go_upto_region 7 with (first
            | (at_builtin; refine wpList_append_at rfl _ _ 22 22 rfl wb.heap.size 5 (.int .u8 0) 1 Tryd.underlying22 Tryd.infoByte rfl A1 i c1 _ rfl HA1.out (.slice (some ⟨wr.heap.size, 0, none⟩) 1 1) rfl 1 _ (Row.src H1.out Tryd.underlying22 (b8_one [y1])) (by omega) (by omega) hle1 ?_; intro A3 c3 w3 hO3 hG3 hl3)
            | (at_builtin; refine wpList_append_at rfl _ _ 22 22 rfl wb.heap.size 5 (.int .u8 0) 1 Tryd.underlying22 Tryd.infoByte rfl A2 i c2 _ rfl (HB1.out w3 hG3) (.slice (some ⟨w3.heap.size, 0, none⟩) 1 1) rfl 1 _ (Row.src (H2.out w3) Tryd.underlying22 (b8_one [y2])) (by omega) (by omega) (Nat.le_trans hle1 (Nat.le_trans hG3.size (by simp))) ?_; intro A4 c4 w5 hO5 hG5 hl5))
          have Hw4 : Hid ((w3.alloc (.cells #[.int .u8 (y2.toNat : Int)] 5)).heap.size = w3.heap.size + 1) := by unfold Hid; simp
          have hG3s := hG3.size
          have HO3 : Hid (OwnAt w5 wb.heap.size A3 (i + 1) c3 ((xorK (KB.take (i + 1)) 54).map b8)) := by
            rw [← List.map_append, Hx.out.1] at hO3
            refine (hO3.grows ((Grows.refl w3).alloc _)).keeps (keeps_grown hG5) (fun p hp e => ?_)
            rcases hl3 with h | h
            · exact Hne.out p.block (by rw [← h, hp]; rfl) e.symm.symm
            · have h5 : p.block = (wr.alloc (.cells #[.int .u8 (y1.toNat : Int)] 5)).heap.size := by have := h; rw [hp] at this; exact Option.some.inj this
              obtain ⟨q, hq, hqb⟩ := Option.map_eq_some_iff.1 e
              have h6 := Hlt2.out.2 q hq
              have := Hsz1.out
              omega
          have HO5 : Hid (OwnAt w5 wb.heap.size A4 (i + 1) c4 ((xorK (KB.take (i + 1)) 92).map b8)) := by
            rw [← List.map_append, Hx.out.2] at hO5
            exact hO5
          have Hne5 : Hid (∀ b, blkOf A3 = some b → blkOf A4 ≠ some b) := fun b hb e => by
            have hA1 : blkOf A1 = some b → b < wr.heap.size := fun h => by obtain ⟨q, hq, hqb⟩ := Option.map_eq_some_iff.1 h; have := Hlt2.out.1 q hq; omega
            have hA2 : blkOf A2 = some b → b < wr.heap.size := fun h => by obtain ⟨q, hq, hqb⟩ := Option.map_eq_some_iff.1 h; have := Hlt2.out.2 q hq; omega
            have := Hsz1.out; have := Hw4.out
            rcases hl3 with h | h <;> rcases hl5 with h2 | h2
            · exact Hne.out b (by rw [← h]; exact hb) (by rw [← h2]; exact e)
            · have := hA1 (by rw [← h]; exact hb); rw [h2] at e; have := Option.some.inj e; omega
            · have := hA2 (by rw [← h2]; exact e); rw [h] at hb; have := Option.some.inj hb; omega
            · rw [h] at hb; rw [h2] at e; have := Option.some.inj hb; have := Option.some.inj e; omega
          have hgr5 : Grows wb w5 := by
            have h3 : Grows wb w3 := Hgr.out.grown hG3 (fun k hk => by obtain ⟨q, hq, hqb⟩ := Option.map_eq_some_iff.1 hk; have := Hbs.out.1 q hq; omega)
            exact (h3.alloc _).grown hG5 (fun k hk => by obtain ⟨q, hq, hqb⟩ := Option.map_eq_some_iff.1 hk; have := Hbs.out.2 q hq; omega)
          have Hgr5 := lib_hid hgr5
          clear hO3 hG3 hl3 hO5 hG5 hl5 HA1 HB1 H1 H2 hle1 Hne hG3s hgr5
          go_wp2
          go_roundw
          case rel => exact ⟨i + 1, c3, c4, A3, A4, by have := Hlt.out; omega, by go_num, rfl, rfl, Hgr5.out, HO3, HO5, Hne5⟩
          case measure => have := Hlt.out; simp [intOf]; omega
      · have hki : ¬ (i : Int) < 64 := by omega
        have hi64 : i = 64 := by omega
        rw [hi64, List.take_of_length_le (by rw [HKBl.out]; omega)] at HA HB
        have HI : Hid (i = 64) := hi64
        have hHS : Hid (SB wr B mb d bs) := (HSB3.out.grows hgr)
        have HA2 : Hid (OwnAt wr wb.heap.size A1 64 c1 ((xorK KB 54).map b8)) := HA
        have HB2 : Hid (OwnAt wr wb.heap.size A2 64 c2 ((xorK KB 92).map b8)) := HB
        clear HA HB hi hlt
        subst hi64
        have hlew := hgr.le
        go_wp2_with (at_builtin; refine wpList_append_at rfl _ _ 22 22 rfl wb.heap.size 5 (.int .u8 0) 1 Tryd.underlying22 Tryd.infoByte rfl A1 64 c1 _ rfl HA2.out (.slice B mb d) rfl mb _ (Row.src hHS.out Tryd.underlying22 (b8_one bs)) (by have := Hm.out; omega) (by omega) hlew ?_; intro A6 c6 w6 hO6 hG6 hl6; have HO6 : Hid (SB w6 A6 (64 + mb) c6 (xorK KB 54 ++ bs)) := (by rw [← List.map_append] at hO6; exact hO6.row); have HB6 : Hid (OwnAt w6 wb.heap.size A2 64 c2 ((xorK KB 92).map b8)) := HB2.out.keeps (keeps_grown hG6) (fun p hp e => Hne.out _ e (by rw [hp]; rfl)); have Hg6 : Hid (Grows wb w6) := hgr.grown hG6 (fun k hk => by obtain ⟨q, hq, hqb⟩ := Option.map_eq_some_iff.1 hk; have := HA2.out.base_le q hq; omega); clear hO6 hG6 hl6)
        refine (refSumS_any (xorK KB 54 ++ bs) A6 (64 + mb) c6 w6 HO6.out (by have := Hm.out; omega)).mono ?_
        rintro e7 w7 ⟨A7, n7, c7, hn7, rfl, hg7, ho7⟩
        have HS7 := lib_hid (SB.own ho7)
        have hn32 : n7 = 32 := by rw [hn7.out]; exact sumS_len _ _
        have HB7 := lib_hid (HB6.out.grows hg7)
        have hle7 := (Hg6.out.trans hg7).le
        have Hg7 := lib_hid (Hg6.out.trans hg7)
        subst hn32
        obtain ⟨is, His⟩ : ∃ x, Hid (sumS shaK (xorK KB 54 ++ bs) = x) := ⟨_, lib_hid rfl⟩
        rw [His.out] at HS7
        clear ho7 hn7 hg7 HO6 HB6 Hg6 HA2 HB2 hHS Hne hlew hgr
        go_wp2_with (at_builtin; refine wpList_append_at rfl _ _ 22 22 rfl wb.heap.size 5 (.int .u8 0) 1 Tryd.underlying22 Tryd.infoByte rfl A2 64 c2 _ rfl HB7.out (.slice A7 32 c7) rfl 32 _ (Row.src HS7.out Tryd.underlying22 (b8_one is)) (by omega) (by omega) hle7 ?_; intro A8 c8 w8 hO8 hG8 hl8; have HO8 : Hid (SB w8 A8 96 c8 (xorK KB 92 ++ is)) := (by rw [← List.map_append] at hO8; exact hO8.row); have Hg8 : Hid (Grows wb w8) := Hg7.out.grown hG8 (fun k hk => by obtain ⟨q, hq, hqb⟩ := Option.map_eq_some_iff.1 hk; have := HB7.out.base_le q hq; omega); clear hO8 hG8 hl8)
        refine (refSumS_any (xorK KB 92 ++ is) A8 96 c8 w8 HO8.out (by omega)).mono ?_
        rintro e9 w9 ⟨A9, n9, c9, hn9, rfl, hg9, ho9⟩
        have HT : Hid (hmF shaK KB bs = sumS shaK (xorK KB 92 ++ is)) := by unfold Hid hmF; rw [His.out]
        have Hf := lib_hid (And.intro hn9.out (And.intro ho9 ((Hgw.out.trans Hg8.out).trans hg9)))
        clear hn9 ho9 hg9
        go_wp2
        go_ret
        rw [HT.out]
        exact newB_mk rfl Hf.out.1 Hf.out.2.2 (own_base Hf.out.2.1 (Hgw.out.trans Hg8.out).le)


end Go.Proofs.YtngmclajfbknjaaDoor
