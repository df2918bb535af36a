/-
  The walk of palfreyref02.Block.
-/
import Derived.Test.YtnlffaglmcddkaaDoorSha11
import Derived.Test.YtnlffaglmcddkaaDoorRef1
import Derived.Deep.Cut
import Derived.BigRegion
import Derived.RegionTactic
import Derived.Outline
namespace Go.Proofs.YtnlffaglmcddkaaDoor
open Go Go.RowKit
set_option linter.unusedSimpArgs false


attribute [local irreducible] startV schedF moreW firstW blockF roundsF sumsF outF outW padS sumS shaK
theorem u32_sub_not (x : UInt32) : IntKind.u32.wrap (4294967295 - (x.toNat : Int)) = ((~~~x).toNat : Int) := by
  have hx := x.toNat_lt
  have e : (~~~x).toNat = 4294967295 - x.toNat := by
    show (~~~x.toBitVec).toNat = _
    rw [BitVec.toNat_not]
    rfl
  rw [IntKind.wrap_u32, e]
  omega
theorem or_choice (e f g : UInt32) : (e &&& f) ||| (~~~e &&& g) = (e &&& f) ^^^ (~~~e &&& g) := by
  apply UInt32.toBitVec_inj.1
  show (e.toBitVec &&& f.toBitVec) ||| (~~~e.toBitVec &&& g.toBitVec) = (e.toBitVec &&& f.toBitVec) ^^^ (~~~e.toBitVec &&& g.toBitVec)
  apply BitVec.eq_of_getLsbD_eq
  intro i hi
  simp only [BitVec.getLsbD_or, BitVec.getLsbD_and, BitVec.getLsbD_xor, BitVec.getLsbD_not, hi, decide_true, Bool.true_and]
  cases e.toBitVec.getLsbD i <;> cases f.toBitVec.getLsbD i <;> cases g.toBitVec.getLsbD i <;> rfl
theorem or_most (a b c : UInt32) : (a &&& b) ||| (a &&& c) ||| (b &&& c) = (a &&& b) ^^^ (a &&& c) ^^^ (b &&& c) := by
  apply UInt32.toBitVec_inj.1
  show (a.toBitVec &&& b.toBitVec) ||| (a.toBitVec &&& c.toBitVec) ||| (b.toBitVec &&& c.toBitVec) = (a.toBitVec &&& b.toBitVec) ^^^ (a.toBitVec &&& c.toBitVec) ^^^ (b.toBitVec &&& c.toBitVec)
  apply BitVec.eq_of_getLsbD_eq
  intro i hi
  simp only [BitVec.getLsbD_or, BitVec.getLsbD_and, BitVec.getLsbD_xor]
  cases a.toBitVec.getLsbD i <;> cases b.toBitVec.getLsbD i <;> cases c.toBitVec.getLsbD i <;> rfl
theorem run_sl_lh {P : Program} {t e : TypeId} (ht : P.underlying t = some (.slice e)) (hs : (P.info? e).map (·.size) = some 1) (bk off n c lo hi : Nat) (l h : Int) (hl : l = lo) (hh : h = hi) (h1 : lo ≤ hi) (h2 : hi ≤ c) (h3 : lo < c) (W : World) :
    Sem.run P (Instr.slice t (.slice (some ⟨bk, off, none⟩) n c) (some (.int .i64 l)) (some (.int .i64 h)) none) W = .ok (.slice (some ⟨bk, off + lo, none⟩) (hi - lo) (c - lo)) W := by
  have e2 : P.elem t = e := by simp [Program.elem, ht]
  obtain ⟨i, hi', hi1⟩ := Option.map_eq_some_iff.1 hs
  have hz : (sizeOf e).run P W = .ok 1 W := by simp [sizeOf, typeInfo, hi', hi1]
  subst hl hh
  rw [run_slice_lh (w := W) t (some ⟨bk, off, none⟩) n c (by rw [e2]; exact ht) .i64 .i64 lo hi (by omega) (by omega) (by omega), e2, hz]
  simp only [Result.andThen_ok, sliced, Int.toNat_natCast, Nat.mul_one]
  rw [if_neg (by omega)]
  simp [add_zero_spot]
/-- The words so far, in one loop. -/
def wF (bs : List UInt8) : Nat → List UInt32
  | 0 => List.replicate 64 0
  | i + 1 => (wF bs i).set i (if i < 16 then bigAt bs i else nextW (wF bs i) i)
theorem wF_len (bs : List UInt8) (i : Nat) : (wF bs i).length = 64 := by
  induction i with
  | zero => simp [wF]
  | succ i ih => simp [wF, ih]
theorem wF_first (bs : List UInt8) : ∀ i, i ≤ 16 → wF bs i = firstW bs i
  | 0, _ => by rw [wF, firstW]
  | i + 1, h => by rw [wF, firstW, if_pos (by omega), wF_first bs i (by omega)]
theorem wF_more (bs : List UInt8) : ∀ j, wF bs (16 + j) = moreW bs j
  | 0 => by rw [moreW]; exact wF_first bs 16 (by omega)
  | j + 1 => by rw [moreW, ← wF_more bs j, show 16 + (j + 1) = (16 + j) + 1 from rfl, wF, if_neg (by omega)]
theorem wF_all (bs : List UInt8) : wF bs 64 = schedF bs := by rw [schedF]; exact wF_more bs 48
theorem wF_low (bs : List UInt8) (i : Nat) (h : i < 16) : (wF bs i).set i (bigAt bs i) = wF bs (i + 1) := by rw [wF, if_pos h]
theorem wF_high (bs : List UInt8) (i : Nat) (h : ¬ i < 16) : (wF bs i).set i (nextW (wF bs i) i) = wF bs (i + 1) := by rw [wF, if_neg h]
attribute [local irreducible] wF
set_option maxRecDepth 100000 in
set_option maxHeartbeats 4000000 in
theorem refBlock_any (h : V8) (bs : List UInt8) (bk off c : Nat) (w : World) (hs : SB w (some ⟨bk, off, none⟩) 64 c bs) :
    Calls Tryd.prog 29 #[.agg h.vals, .slice (some ⟨bk, off, none⟩) 64 c] w fun e w' => e = .returned (.agg (blockF shaK h bs).vals) ∧ Grows w w' := by
  obtain ⟨hc, Hhc, hcl, hc1⟩ : ∃ hc : Array Value, Hid (h.vals = hc) ∧ hc.size = 8 ∧ hc.all (·.oneCell') = true := ⟨_, lib_hid rfl, rfl, b32_one _⟩
  obtain ⟨zc, Hzc, hzl⟩ : ∃ zc : Array Value, Hid (#[Value.int .u32 0, Value.int .u32 0, Value.int .u32 0, Value.int .u32 0, Value.int .u32 0, Value.int .u32 0, Value.int .u32 0, Value.int .u32 0] = zc) ∧ zc.size = 8 := ⟨_, lib_hid rfl, rfl⟩
  have ez : ((Value.int .u32 0 :: Value.int .u32 0 :: Value.int .u32 0 :: Value.int .u32 0 :: Value.int .u32 0 :: Value.int .u32 0 :: Value.int .u32 0 :: Value.int .u32 0 :: Value.int .u32 0 :: Value.int .u32 0 :: Value.int .u32 0 :: Value.int .u32 0 :: Value.int .u32 0 :: Value.int .u32 0 :: Value.int .u32 0 :: Value.int .u32 0 :: Value.int .u32 0 :: Value.int .u32 0 :: Value.int .u32 0 :: Value.int .u32 0 :: Value.int .u32 0 :: Value.int .u32 0 :: Value.int .u32 0 :: Value.int .u32 0 :: Value.int .u32 0 :: Value.int .u32 0 :: Value.int .u32 0 :: Value.int .u32 0 :: Value.int .u32 0 :: Value.int .u32 0 :: Value.int .u32 0 :: Value.int .u32 0 :: Value.int .u32 0 :: Value.int .u32 0 :: Value.int .u32 0 :: Value.int .u32 0 :: Value.int .u32 0 :: Value.int .u32 0 :: Value.int .u32 0 :: Value.int .u32 0 :: Value.int .u32 0 :: Value.int .u32 0 :: Value.int .u32 0 :: Value.int .u32 0 :: Value.int .u32 0 :: Value.int .u32 0 :: Value.int .u32 0 :: Value.int .u32 0 :: Value.int .u32 0 :: Value.int .u32 0 :: Value.int .u32 0 :: Value.int .u32 0 :: Value.int .u32 0 :: Value.int .u32 0 :: Value.int .u32 0 :: Value.int .u32 0 :: Value.int .u32 0 :: Value.int .u32 0 :: Value.int .u32 0 :: Value.int .u32 0 :: Value.int .u32 0 :: Value.int .u32 0 :: Value.int .u32 0 :: Value.int .u32 0 :: [] : List Value).toArray) = (((List.replicate 64 0 : List UInt32)).map b32).toArray := by kernel_rfl
  obtain ⟨W0, HW0, hg0⟩ : ∃ W0 : World, Hid (W0 = ((w.alloc (.cells hc 51)).alloc (.cells #[Value.int .u32 0, Value.int .u32 0, Value.int .u32 0, Value.int .u32 0, Value.int .u32 0, Value.int .u32 0, Value.int .u32 0, Value.int .u32 0] 51)).alloc (.cells ((Value.int .u32 0 :: Value.int .u32 0 :: Value.int .u32 0 :: Value.int .u32 0 :: Value.int .u32 0 :: Value.int .u32 0 :: Value.int .u32 0 :: Value.int .u32 0 :: Value.int .u32 0 :: Value.int .u32 0 :: Value.int .u32 0 :: Value.int .u32 0 :: Value.int .u32 0 :: Value.int .u32 0 :: Value.int .u32 0 :: Value.int .u32 0 :: Value.int .u32 0 :: Value.int .u32 0 :: Value.int .u32 0 :: Value.int .u32 0 :: Value.int .u32 0 :: Value.int .u32 0 :: Value.int .u32 0 :: Value.int .u32 0 :: Value.int .u32 0 :: Value.int .u32 0 :: Value.int .u32 0 :: Value.int .u32 0 :: Value.int .u32 0 :: Value.int .u32 0 :: Value.int .u32 0 :: Value.int .u32 0 :: Value.int .u32 0 :: Value.int .u32 0 :: Value.int .u32 0 :: Value.int .u32 0 :: Value.int .u32 0 :: Value.int .u32 0 :: Value.int .u32 0 :: Value.int .u32 0 :: Value.int .u32 0 :: Value.int .u32 0 :: Value.int .u32 0 :: Value.int .u32 0 :: Value.int .u32 0 :: Value.int .u32 0 :: Value.int .u32 0 :: Value.int .u32 0 :: Value.int .u32 0 :: Value.int .u32 0 :: Value.int .u32 0 :: Value.int .u32 0 :: Value.int .u32 0 :: Value.int .u32 0 :: Value.int .u32 0 :: Value.int .u32 0 :: Value.int .u32 0 :: Value.int .u32 0 :: Value.int .u32 0 :: Value.int .u32 0 :: Value.int .u32 0 :: Value.int .u32 0 :: Value.int .u32 0 :: Value.int .u32 0 :: [] : List Value).toArray) 75)) ∧ Grows w W0 := ⟨_, lib_hid rfl, (((Grows.refl w).alloc _).alloc _).alloc _⟩
  have HB0 : Hid (Blk W0 w.heap.size 51 hc) := by
    unfold Hid; rw [HW0.out]; exact ((Blk.new w _ _).alloc _).alloc _
  have HB1 : Hid (Blk W0 (w.heap.size + 1) 51 #[Value.int .u32 0, Value.int .u32 0, Value.int .u32 0, Value.int .u32 0, Value.int .u32 0, Value.int .u32 0, Value.int .u32 0, Value.int .u32 0]) := by
    unfold Hid; rw [HW0.out]
    have := (Blk.new (w.alloc (.cells hc 51)) 51 #[Value.int .u32 0, Value.int .u32 0, Value.int .u32 0, Value.int .u32 0, Value.int .u32 0, Value.int .u32 0, Value.int .u32 0, Value.int .u32 0]).alloc (.cells ((Value.int .u32 0 :: Value.int .u32 0 :: Value.int .u32 0 :: Value.int .u32 0 :: Value.int .u32 0 :: Value.int .u32 0 :: Value.int .u32 0 :: Value.int .u32 0 :: Value.int .u32 0 :: Value.int .u32 0 :: Value.int .u32 0 :: Value.int .u32 0 :: Value.int .u32 0 :: Value.int .u32 0 :: Value.int .u32 0 :: Value.int .u32 0 :: Value.int .u32 0 :: Value.int .u32 0 :: Value.int .u32 0 :: Value.int .u32 0 :: Value.int .u32 0 :: Value.int .u32 0 :: Value.int .u32 0 :: Value.int .u32 0 :: Value.int .u32 0 :: Value.int .u32 0 :: Value.int .u32 0 :: Value.int .u32 0 :: Value.int .u32 0 :: Value.int .u32 0 :: Value.int .u32 0 :: Value.int .u32 0 :: Value.int .u32 0 :: Value.int .u32 0 :: Value.int .u32 0 :: Value.int .u32 0 :: Value.int .u32 0 :: Value.int .u32 0 :: Value.int .u32 0 :: Value.int .u32 0 :: Value.int .u32 0 :: Value.int .u32 0 :: Value.int .u32 0 :: Value.int .u32 0 :: Value.int .u32 0 :: Value.int .u32 0 :: Value.int .u32 0 :: Value.int .u32 0 :: Value.int .u32 0 :: Value.int .u32 0 :: Value.int .u32 0 :: Value.int .u32 0 :: Value.int .u32 0 :: Value.int .u32 0 :: Value.int .u32 0 :: Value.int .u32 0 :: Value.int .u32 0 :: Value.int .u32 0 :: Value.int .u32 0 :: Value.int .u32 0 :: Value.int .u32 0 :: Value.int .u32 0 :: Value.int .u32 0 :: Value.int .u32 0 :: [] : List Value).toArray) 75)
    simpa using this
  have HB2 : Hid (Blk W0 (w.heap.size + 1 + 1) 75 ((wF bs 0).map b32).toArray) := by
    unfold Hid; rw [HW0.out, wF, ez]
    have := Blk.new ((w.alloc (.cells hc 51)).alloc (.cells #[Value.int .u32 0, Value.int .u32 0, Value.int .u32 0, Value.int .u32 0, Value.int .u32 0, Value.int .u32 0, Value.int .u32 0, Value.int .u32 0] 51)) 75 ((List.replicate 64 (0 : UInt32)).map b32).toArray
    simpa using this
  clear ez
  obtain ⟨g0, Hg0⟩ : ∃ g, Hid (w.heap.size = g) := ⟨_, lib_hid rfl⟩
  obtain ⟨gR, HgR⟩ : ∃ g, Hid (w.heap.size + 1 = g) := ⟨_, lib_hid rfl⟩
  obtain ⟨gW, HgW⟩ : ∃ g, Hid (w.heap.size + 1 + 1 = g) := ⟨_, lib_hid rfl⟩
  have HB0' : Hid (Blk W0 g0 51 hc) := by rw [← Hg0.out]; exact HB0
  have HB1' : Hid (Blk W0 gR 51 zc) := by rw [← HgR.out, ← Hzc.out]; exact HB1
  have HB2' : Hid (Blk W0 gW 75 ((wF bs 0).map b32).toArray) := by rw [← HgW.out]; exact HB2
  have Hne : Hid (g0 ≠ gW ∧ gR ≠ gW ∧ bk ≠ gW ∧ w.heap.size ≤ gW ∧ w.heap.size ≤ gR) := by
    obtain ⟨b', o', e', hb', _⟩ := hs.2.2.2.2 (by omega)
    cases e'
    have := Hg0.out; have := HgR.out; have := HgW.out; unfold Hid; omega
  have HS0 := lib_hid (hs.grows hg0)
  have Hc64 : Hid (64 ≤ c) := hs.2.1
  have Hcm : Hid (c ≤ maxLen) := hs.2.2.1
  have Hbl : Hid (bs.length = 64) := hs.len
  have Hzl := lib_hid hzl
  have Hhl := lib_hid (And.intro hcl hc1)
  rw [Hhc.out]
  clear HB0 HB1 HB2 hs hzl hcl hc1
  go_enter Tryd.func29, Tryd.ntmps29
  go_upto_region 2 with fail
  rw [← HW0.out, HgW.out, HgR.out, Hg0.out]
  clear HW0 HgW HgR Hg0
  go_wp2
  go_loopw [6] (fun v wr => ∃ i : Nat, i ≤ 64 ∧ v = .int .i64 (i : Int) ∧ Hid (Grows w wr) ∧ Hid (Blk wr g0 51 hc) ∧ Hid (Blk wr gR 51 zc) ∧ Hid (SB wr (some ⟨bk, off, none⟩) 64 c bs) ∧ Hid (Blk wr gW 75 ((wF bs i).map b32).toArray)) (fun v _ => 64 - (intOf v).toNat)
  case atStart => exact ⟨0, by omega, rfl, hg0, HB0', HB1', HS0, HB2'⟩
  case round =>
    clear hg0 HB0' HB1' HB2' HS0
    obtain ⟨i, hi, rfl, Hgr, HB0, HB1, HS, HM⟩ := hrel
    have HWl : Hid ((wF bs i).length = 64) := wF_len bs i
    by_cases hlt : i < 64
    · have hki : (i : Int) < 64 := by omega
      by_cases h16 : i < 16
      · have hk16 : (i : Int) < 16 := by omega
        obtain ⟨lo, hlo, Hlo, hlob⟩ : ∃ lo : Nat, 4 * (i : Int) = (lo : Int) ∧ Hid (4 * i = lo) ∧ (lo : Int) ≤ 60 := ⟨4 * i, by omega, lib_hid rfl, by omega⟩
        have hsl := fun W => run_sl_lh (P := Tryd.prog) (t := 28) (e := 5) Tryd.underlying28 Tryd.sizeByte bk off 64 c lo (lo + 4) (lo : Int) ((lo : Int) + 4) rfl (by omega) (by omega) (by have := Hc64.out; omega) (by have := Hc64.out; omega) W
        rw [show lo + 4 - lo = 4 by omega] at hsl
        obtain ⟨n, Hn⟩ : ∃ n, Hid (bigF ((bs.drop lo).take 4) = n) := ⟨_, lib_hid rfl⟩
        obtain ⟨x, Hx, hx⟩ : ∃ x : UInt32, Hid (n.toUInt32 = x) ∧ IntKind.u32.wrap (n.toNat : Int) = (x.toNat : Int) := ⟨_, lib_hid rfl, cell64 n⟩
        have hS4 := (HS.out.frm (k := lo) (by omega)).pre (k := 4) (by omega)
        rw [if_neg (by have := Hc64.out; omega)] at hS4
        have hS4' : SB wr (some ⟨bk, off + lo, none⟩) 4 (c - lo) ((bs.drop lo).take 4) := by
          have e : (some (⟨bk, off, none⟩ : Addr)).map (·.add lo) = some ⟨bk, off + lo, none⟩ := by simp [add_zero_spot]
          rw [e] at hS4
          exact hS4
        have HC : Hid (Calls Tryd.prog 45 #[.slice (some ⟨bk, off + lo, none⟩) 4 (c - lo)] wr fun e w' => e = .returned (.int .u64 (n.toNat : Int)) ∧ wr = w') := by
          rw [← Hn.out]; exact refBig_any _ 4 _ _ wr hS4'
        have cz := cell32 HM.out i (by rw [HWl.out]; omega)
        have fz := HM.out.frozen i
        have HB3 := lib_hid (blk_set32 HM.out i x)
        have Hset : Hid ((wF bs i).set i x = wF bs (i + 1)) := by unfold Hid; rw [← wF_low bs i h16, bigAt, Hlo.out, Hn.out, Hx.out]
        rw [Hset.out] at HB3
        have HB0s := lib_hid (HB0.out.far (p := ⟨gW, i, none⟩) Hne.out.1 (b32 x))
        have HB1s := lib_hid (HB1.out.far (p := ⟨gW, i, none⟩) Hne.out.2.1 (b32 x))
        have HSs : Hid (SB (wr.setCell ⟨gW, i, none⟩ (b32 x)) (some ⟨bk, off, none⟩) 64 c bs) := Row.keeps HS.out (keeps_set wr ⟨gW, i, none⟩ _) (fun p hp e => by cases hp; exact Hne.out.2.2.1 e)
        have Hgs : Hid (Grows w (wr.setCell ⟨gW, i, none⟩ (b32 x))) := Hgr.out.setCell (p := ⟨gW, i, none⟩) Hne.out.2.2.2.1 _
        have hzw : gW < wr.heap.size := HM.out.lt
        clear HM HB0 HB1 HS Hgr hS4 hS4' hlt h16
        go_wp2_with fail
        refine HC.out.mono ?_
        rintro e w1 ⟨rfl, rfl⟩
        go_wp2
        go_roundw
        case rel => exact ⟨i + 1, by omega, by go_num, Hgs, HB0s, HB1s, HSs, HB3⟩
        case measure => simp [intOf]; omega
      · have hk16 : ¬ (i : Int) < 16 := by omega
        have hki0 : (16 : Int) ≤ i := by omega
        have Hkb := lib_hid (And.intro hki hki0)
        obtain ⟨j15, hj15, Hj15, hb15⟩ : ∃ m : Nat, (i : Int) - 15 = (m : Int) ∧ Hid (i - 15 = m) ∧ (m : Int) < 64 := ⟨i - 15, by omega, lib_hid rfl, by omega⟩
        obtain ⟨x15, Hx15⟩ : ∃ x, Hid ((wF bs i).getD j15 0 = x) := ⟨_, lib_hid rfl⟩
        have HC15 : Hid (∀ W, Grows wr W → W.cell? ⟨gW, j15, none⟩ = some (.int .u32 (x15.toNat : Int))) := fun W hW => by rw [← Hx15.out]; exact cell32 (HM.out.grows hW) j15 (by rw [HWl.out]; omega)
        obtain ⟨j2, hj2, Hj2, hb2⟩ : ∃ m : Nat, (i : Int) - 2 = (m : Int) ∧ Hid (i - 2 = m) ∧ (m : Int) < 64 := ⟨i - 2, by omega, lib_hid rfl, by omega⟩
        obtain ⟨x2, Hx2⟩ : ∃ x, Hid ((wF bs i).getD j2 0 = x) := ⟨_, lib_hid rfl⟩
        have HC2 : Hid (∀ W, Grows wr W → W.cell? ⟨gW, j2, none⟩ = some (.int .u32 (x2.toNat : Int))) := fun W hW => by rw [← Hx2.out]; exact cell32 (HM.out.grows hW) j2 (by rw [HWl.out]; omega)
        obtain ⟨j16, hj16, Hj16, hb16⟩ : ∃ m : Nat, (i : Int) - 16 = (m : Int) ∧ Hid (i - 16 = m) ∧ (m : Int) < 64 := ⟨i - 16, by omega, lib_hid rfl, by omega⟩
        obtain ⟨x16, Hx16⟩ : ∃ x, Hid ((wF bs i).getD j16 0 = x) := ⟨_, lib_hid rfl⟩
        have HC16 : Hid (∀ W, Grows wr W → W.cell? ⟨gW, j16, none⟩ = some (.int .u32 (x16.toNat : Int))) := fun W hW => by rw [← Hx16.out]; exact cell32 (HM.out.grows hW) j16 (by rw [HWl.out]; omega)
        obtain ⟨j7, hj7, Hj7, hb7⟩ : ∃ m : Nat, (i : Int) - 7 = (m : Int) ∧ Hid (i - 7 = m) ∧ (m : Int) < 64 := ⟨i - 7, by omega, lib_hid rfl, by omega⟩
        obtain ⟨x7, Hx7⟩ : ∃ x, Hid ((wF bs i).getD j7 0 = x) := ⟨_, lib_hid rfl⟩
        have HC7 : Hid (∀ W, Grows wr W → W.cell? ⟨gW, j7, none⟩ = some (.int .u32 (x7.toNat : Int))) := fun W hW => by rw [← Hx7.out]; exact cell32 (HM.out.grows hW) j7 (by rw [HWl.out]; omega)
        obtain ⟨r7, Hr7⟩ : ∃ x, Hid (rotR x15 7 = x) := ⟨_, lib_hid rfl⟩
        obtain ⟨r18, Hr18⟩ : ∃ x, Hid (rotR x15 18 = x) := ⟨_, lib_hid rfl⟩
        obtain ⟨r17, Hr17⟩ : ∃ x, Hid (rotR x2 17 = x) := ⟨_, lib_hid rfl⟩
        obtain ⟨r19, Hr19⟩ : ∃ x, Hid (rotR x2 19 = x) := ⟨_, lib_hid rfl⟩
        obtain ⟨p1, Hp1, hp1⟩ : ∃ v : UInt32, Hid (r7 ^^^ r18 = v) ∧ bits .xor .u32 (r7.toNat : Int) (r18.toNat : Int) = (v.toNat : Int) := ⟨_, lib_hid rfl, u32_xor _ _⟩
        obtain ⟨p2, Hp2, hp2⟩ : ∃ v : UInt32, Hid (x15 >>> 3 = v) ∧ (x15.toNat : Int) / 8 = (v.toNat : Int) := ⟨_, lib_hid rfl, u32_shr3 _⟩
        have hp2b : (p2.toNat : Int) < 4294967296 := by have := p2.toNat_lt; omega
        obtain ⟨s, Hs, hs⟩ : ∃ v : UInt32, Hid (p1 ^^^ p2 = v) ∧ bits .xor .u32 (p1.toNat : Int) (p2.toNat : Int) = (v.toNat : Int) := ⟨_, lib_hid rfl, u32_xor _ _⟩
        obtain ⟨p3, Hp3, hp3⟩ : ∃ v : UInt32, Hid (r17 ^^^ r19 = v) ∧ bits .xor .u32 (r17.toNat : Int) (r19.toNat : Int) = (v.toNat : Int) := ⟨_, lib_hid rfl, u32_xor _ _⟩
        obtain ⟨p4, Hp4, hp4⟩ : ∃ v : UInt32, Hid (x2 >>> 10 = v) ∧ (x2.toNat : Int) / 1024 = (v.toNat : Int) := ⟨_, lib_hid rfl, u32_shr10 _⟩
        have hp4b : (p4.toNat : Int) < 4294967296 := by have := p4.toNat_lt; omega
        obtain ⟨t, Ht, ht⟩ : ∃ v : UInt32, Hid (p3 ^^^ p4 = v) ∧ bits .xor .u32 (p3.toNat : Int) (p4.toNat : Int) = (v.toNat : Int) := ⟨_, lib_hid rfl, u32_xor _ _⟩
        obtain ⟨e1, He1, he1⟩ : ∃ v : UInt32, Hid (t + x7 = v) ∧ IntKind.u32.wrap ((t.toNat : Int) + (x7.toNat : Int)) = (v.toNat : Int) := ⟨_, lib_hid rfl, u32_wrap_add _ _⟩
        obtain ⟨e2, He2, he2⟩ : ∃ v : UInt32, Hid (e1 + s = v) ∧ IntKind.u32.wrap ((e1.toNat : Int) + (s.toNat : Int)) = (v.toNat : Int) := ⟨_, lib_hid rfl, u32_wrap_add _ _⟩
        obtain ⟨e3, He3, he3⟩ : ∃ v : UInt32, Hid (e2 + x16 = v) ∧ IntKind.u32.wrap ((e2.toNat : Int) + (x16.toNat : Int)) = (v.toNat : Int) := ⟨_, lib_hid rfl, u32_wrap_add _ _⟩
        have Hnext : Hid (nextW (wF bs i) i = e3) := by
          unfold Hid nextW sig0 sig1
          rw [Hj15.out, Hj2.out, Hj16.out, Hj7.out, Hx15.out, Hx2.out, Hx16.out, Hx7.out, Hr7.out, Hr18.out, Hr17.out, Hr19.out, Hp1.out, Hp2.out, Hs.out, Hp3.out, Hp4.out, Ht.out, ← He3.out, ← He2.out, ← He1.out]
          ac_rfl
        have Hset : Hid ((wF bs i).set i e3 = wF bs (i + 1)) := by unfold Hid; rw [← wF_high bs i h16, Hnext.out]
        have Hh := lib_hid (And.intro he1 (And.intro he2 he3))
        have Hjj := lib_hid (And.intro hj16 hj7)
        clear he1 he2 he3 h16 Hnext hlt hj16 hj7
        clear hb16 hb7
        have Hbb : Hid ((j16 : Int) < 64 ∧ (j7 : Int) < 64) := by have := Hj16.out; have := Hj7.out; have := Hkb.out; unfold Hid; omega
        go_upto_region 7 with fail
        clear hk16 hki
        apply wp_region_mono 18 ((.is _, []) :: (.is _, []) :: (.is _, []) :: (.is _, []) :: (.is (.int .u32 (r7.toNat : Int)), []) :: (.is _, []) :: (.is _, []) :: (.is _, []) :: (.is _, []) :: (.is (.int .u32 (r18.toNat : Int)), []) :: (.is _, []) :: (.is _, []) :: (.is _, []) :: (.is _, []) :: (.is _, []) :: (.is _, []) :: (.is _, []) :: (.is _, []) :: []) (by kernel_rfl) (by kernel_rfl)
        iterate 3
          apply Mono.is0
          · kernel_rfl
          · intro W hW
            go_wp2
            refine ⟨rfl, rfl, Grows.refl _, ?_⟩
            unfold Oper.valAt
            go_simp
            rfl
          intro k1 a1 hk1 ha1
          simp only [Nat.reduceAdd] at hk1
          simp only [Act.put, List.setIfInBounds_toArray, List.set_cons_succ, List.set_cons_zero] at ha1
          subst hk1 ha1
        apply Mono.is0
        · kernel_rfl
        · intro W hW
          have q1 := HC15.out W hW
          go_wp2
          refine ⟨rfl, rfl, Grows.refl _, ?_⟩
          unfold Oper.valAt
          go_simp
          rfl
        intro k1 a1 hk1 ha1
        simp only [Nat.reduceAdd] at hk1
        simp only [Act.put, List.setIfInBounds_toArray, List.set_cons_succ, List.set_cons_zero] at ha1
        subst hk1 ha1
        apply Mono.is0
        · kernel_rfl
        · intro W hW 
          go_wp2_with fail
          refine (right_any x15 7 _ (by decide) (by decide)).mono ?_
          rintro e1 w1 ⟨rfl, hg1⟩
          rw [Hr7.out]
          go_wp2
          exact ⟨rfl, rfl, hg1, rfl⟩
        intro k1 a1 hk1 ha1
        simp only [Nat.reduceAdd] at hk1
        simp only [Act.put, List.setIfInBounds_toArray, List.set_cons_succ, List.set_cons_zero] at ha1
        subst hk1 ha1
        iterate 3
          apply Mono.is0
          · kernel_rfl
          · intro W hW
            go_wp2
            refine ⟨rfl, rfl, Grows.refl _, ?_⟩
            unfold Oper.valAt
            go_simp
            rfl
          intro k1 a1 hk1 ha1
          simp only [Nat.reduceAdd] at hk1
          simp only [Act.put, List.setIfInBounds_toArray, List.set_cons_succ, List.set_cons_zero] at ha1
          subst hk1 ha1
        apply Mono.is0
        · kernel_rfl
        · intro W hW
          have q1 := HC15.out W hW
          go_wp2
          refine ⟨rfl, rfl, Grows.refl _, ?_⟩
          unfold Oper.valAt
          go_simp
          rfl
        intro k1 a1 hk1 ha1
        simp only [Nat.reduceAdd] at hk1
        simp only [Act.put, List.setIfInBounds_toArray, List.set_cons_succ, List.set_cons_zero] at ha1
        subst hk1 ha1
        apply Mono.is0
        · kernel_rfl
        · intro W hW 
          go_wp2_with fail
          refine (right_any x15 18 _ (by decide) (by decide)).mono ?_
          rintro e1 w1 ⟨rfl, hg1⟩
          rw [Hr18.out]
          go_wp2
          exact ⟨rfl, rfl, hg1, rfl⟩
        intro k1 a1 hk1 ha1
        simp only [Nat.reduceAdd] at hk1
        simp only [Act.put, List.setIfInBounds_toArray, List.set_cons_succ, List.set_cons_zero] at ha1
        subst hk1 ha1
        iterate 4
          apply Mono.is0
          · kernel_rfl
          · intro W hW
            go_wp2
            refine ⟨rfl, rfl, Grows.refl _, ?_⟩
            unfold Oper.valAt
            go_simp
            rfl
          intro k1 a1 hk1 ha1
          simp only [Nat.reduceAdd] at hk1
          simp only [Act.put, List.setIfInBounds_toArray, List.set_cons_succ, List.set_cons_zero] at ha1
          subst hk1 ha1
        apply Mono.is0
        · kernel_rfl
        · intro W hW
          have q1 := HC15.out W hW
          go_wp2
          refine ⟨rfl, rfl, Grows.refl _, ?_⟩
          unfold Oper.valAt
          go_simp
          rfl
        intro k1 a1 hk1 ha1
        simp only [Nat.reduceAdd] at hk1
        simp only [Act.put, List.setIfInBounds_toArray, List.set_cons_succ, List.set_cons_zero] at ha1
        subst hk1 ha1
        iterate 3
          apply Mono.is0
          · kernel_rfl
          · intro W hW
            go_wp2
            refine ⟨rfl, rfl, Grows.refl _, ?_⟩
            unfold Oper.valAt
            go_simp
            rfl
          intro k1 a1 hk1 ha1
          simp only [Nat.reduceAdd] at hk1
          simp only [Act.put, List.setIfInBounds_toArray, List.set_cons_succ, List.set_cons_zero] at ha1
          subst hk1 ha1
        refine Mono.done ?_
        intro wa hga
        simp only [allF, List.drop_succ_cons, List.drop_nil]
        go_upto_region 8 with fail
        have HMa : Hid (Blk wa gW 75 ((wF bs i).map b32).toArray) := HM.out.grows hga
        have HC2' : Hid (∀ W, Grows wa W → W.cell? ⟨gW, j2, none⟩ = some (.int .u32 (x2.toNat : Int))) := fun W hW => HC2.out W (hga.trans hW)
        clear HC2
        have HC2 := HC2'
        clear HC2' hp1 hp2 hs Hp1 Hp2 Hs hp2b
        apply wp_region_mono 18 ((.is _, []) :: (.is _, []) :: (.is _, []) :: (.is _, []) :: (.is (.int .u32 (r17.toNat : Int)), []) :: (.is _, []) :: (.is _, []) :: (.is _, []) :: (.is _, []) :: (.is (.int .u32 (r19.toNat : Int)), []) :: (.is _, []) :: (.is _, []) :: (.is _, []) :: (.is _, []) :: (.is _, []) :: (.is _, []) :: (.is _, []) :: (.is _, []) :: []) (by kernel_rfl) (by kernel_rfl)
        iterate 3
          apply Mono.is0
          · kernel_rfl
          · intro W hW
            go_wp2
            refine ⟨rfl, rfl, Grows.refl _, ?_⟩
            unfold Oper.valAt
            go_simp
            rfl
          intro k1 a1 hk1 ha1
          simp only [Nat.reduceAdd] at hk1
          simp only [Act.put, List.setIfInBounds_toArray, List.set_cons_succ, List.set_cons_zero] at ha1
          subst hk1 ha1
        apply Mono.is0
        · kernel_rfl
        · intro W hW
          have q1 := HC2.out W hW
          go_wp2
          refine ⟨rfl, rfl, Grows.refl _, ?_⟩
          unfold Oper.valAt
          go_simp
          rfl
        intro k1 a1 hk1 ha1
        simp only [Nat.reduceAdd] at hk1
        simp only [Act.put, List.setIfInBounds_toArray, List.set_cons_succ, List.set_cons_zero] at ha1
        subst hk1 ha1
        apply Mono.is0
        · kernel_rfl
        · intro W hW 
          go_wp2_with fail
          refine (right_any x2 17 _ (by decide) (by decide)).mono ?_
          rintro e1 w1 ⟨rfl, hg1⟩
          rw [Hr17.out]
          go_wp2
          exact ⟨rfl, rfl, hg1, rfl⟩
        intro k1 a1 hk1 ha1
        simp only [Nat.reduceAdd] at hk1
        simp only [Act.put, List.setIfInBounds_toArray, List.set_cons_succ, List.set_cons_zero] at ha1
        subst hk1 ha1
        iterate 3
          apply Mono.is0
          · kernel_rfl
          · intro W hW
            go_wp2
            refine ⟨rfl, rfl, Grows.refl _, ?_⟩
            unfold Oper.valAt
            go_simp
            rfl
          intro k1 a1 hk1 ha1
          simp only [Nat.reduceAdd] at hk1
          simp only [Act.put, List.setIfInBounds_toArray, List.set_cons_succ, List.set_cons_zero] at ha1
          subst hk1 ha1
        apply Mono.is0
        · kernel_rfl
        · intro W hW
          have q1 := HC2.out W hW
          go_wp2
          refine ⟨rfl, rfl, Grows.refl _, ?_⟩
          unfold Oper.valAt
          go_simp
          rfl
        intro k1 a1 hk1 ha1
        simp only [Nat.reduceAdd] at hk1
        simp only [Act.put, List.setIfInBounds_toArray, List.set_cons_succ, List.set_cons_zero] at ha1
        subst hk1 ha1
        apply Mono.is0
        · kernel_rfl
        · intro W hW 
          go_wp2_with fail
          refine (right_any x2 19 _ (by decide) (by decide)).mono ?_
          rintro e1 w1 ⟨rfl, hg1⟩
          rw [Hr19.out]
          go_wp2
          exact ⟨rfl, rfl, hg1, rfl⟩
        intro k1 a1 hk1 ha1
        simp only [Nat.reduceAdd] at hk1
        simp only [Act.put, List.setIfInBounds_toArray, List.set_cons_succ, List.set_cons_zero] at ha1
        subst hk1 ha1
        iterate 4
          apply Mono.is0
          · kernel_rfl
          · intro W hW
            go_wp2
            refine ⟨rfl, rfl, Grows.refl _, ?_⟩
            unfold Oper.valAt
            go_simp
            rfl
          intro k1 a1 hk1 ha1
          simp only [Nat.reduceAdd] at hk1
          simp only [Act.put, List.setIfInBounds_toArray, List.set_cons_succ, List.set_cons_zero] at ha1
          subst hk1 ha1
        apply Mono.is0
        · kernel_rfl
        · intro W hW
          have q1 := HC2.out W hW
          go_wp2
          refine ⟨rfl, rfl, Grows.refl _, ?_⟩
          unfold Oper.valAt
          go_simp
          rfl
        intro k1 a1 hk1 ha1
        simp only [Nat.reduceAdd] at hk1
        simp only [Act.put, List.setIfInBounds_toArray, List.set_cons_succ, List.set_cons_zero] at ha1
        subst hk1 ha1
        iterate 3
          apply Mono.is0
          · kernel_rfl
          · intro W hW
            go_wp2
            refine ⟨rfl, rfl, Grows.refl _, ?_⟩
            unfold Oper.valAt
            go_simp
            rfl
          intro k1 a1 hk1 ha1
          simp only [Nat.reduceAdd] at hk1
          simp only [Act.put, List.setIfInBounds_toArray, List.set_cons_succ, List.set_cons_zero] at ha1
          subst hk1 ha1
        refine Mono.done ?_
        intro wb hgb
        simp only [allF, List.drop_succ_cons, List.drop_nil]
        go_upto_region 9 with fail
        have hgab := hga.trans hgb
        have HMb : Hid (Blk wb gW 75 ((wF bs i).map b32).toArray) := HMa.out.grows hgb
        have HC16' : Hid (∀ W, Grows wb W → W.cell? ⟨gW, j16, none⟩ = some (.int .u32 (x16.toNat : Int))) := fun W hW => HC16.out W (hgab.trans hW)
        have HC7' : Hid (∀ W, Grows wb W → W.cell? ⟨gW, j7, none⟩ = some (.int .u32 (x7.toNat : Int))) := fun W hW => HC7.out W (hgab.trans hW)
        have HB0b := lib_hid (HB0.out.grows hgab)
        have HB1b := lib_hid (HB1.out.grows hgab)
        have HSb := lib_hid (HS.out.grows hgab)
        have Hgrb : Hid (Grows w wb) := Hgr.out.trans hgab
        clear HM HMa HB0 HB1 HS Hgr HC16 HC7 HC15 HC2 hga hgb hgab hp3 hp4 ht Hp3 Hp4 Ht hp4b hj15 hj2 hb15 hb2
        have HC16 := HC16'
        have HC7 := HC7'
        clear HC16' HC7'
        have hki := Hkb.out.1
        have hj16 := Hjj.out.1
        have hj7 := Hjj.out.2
        have hb16 := Hbb.out.1
        have hb7 := Hbb.out.2
        have He1 := lib_hid Hh.out.1
        have He2 := lib_hid Hh.out.2.1
        have He3 := lib_hid Hh.out.2.2
        apply wp_region_mono 15 ((.is _, []) :: (.is _, []) :: (.is _, []) :: (.is _, []) :: (.is _, []) :: (.is _, []) :: (.is _, []) :: (.is _, []) :: (.is _, []) :: (.is _, []) :: (.is _, []) :: (.is _, []) :: (.is _, []) :: (.is _, []) :: (.is _, []) :: []) (by kernel_rfl) (by kernel_rfl)
        iterate 5
          apply Mono.is0
          · kernel_rfl
          · intro W hW
            go_wp2
            refine ⟨rfl, rfl, Grows.refl _, ?_⟩
            unfold Oper.valAt
            go_simp
            rfl
          intro k1 a1 hk1 ha1
          simp only [Nat.reduceAdd] at hk1
          simp only [Act.put, List.setIfInBounds_toArray, List.set_cons_succ, List.set_cons_zero] at ha1
          subst hk1 ha1
        apply Mono.is0
        · kernel_rfl
        · intro W hW
          have q1 := HC7.out W hW
          go_wp2
          refine ⟨rfl, rfl, Grows.refl _, ?_⟩
          unfold Oper.valAt
          go_simp
          rfl
        intro k1 a1 hk1 ha1
        simp only [Nat.reduceAdd] at hk1
        simp only [Act.put, List.setIfInBounds_toArray, List.set_cons_succ, List.set_cons_zero] at ha1
        subst hk1 ha1
        apply Mono.is0
        · kernel_rfl
        · intro W hW
          have e1 := He1.out
          go_wp2
          refine ⟨rfl, rfl, Grows.refl _, ?_⟩
          unfold Oper.valAt
          go_simp
          rfl
        intro k1 a1 hk1 ha1
        simp only [Nat.reduceAdd] at hk1
        simp only [Act.put, List.setIfInBounds_toArray, List.set_cons_succ, List.set_cons_zero] at ha1
        subst hk1 ha1
        apply Mono.is0
        · kernel_rfl
        · intro W hW
          go_wp2
          refine ⟨rfl, rfl, Grows.refl _, ?_⟩
          unfold Oper.valAt
          go_simp
          rfl
        intro k1 a1 hk1 ha1
        simp only [Nat.reduceAdd] at hk1
        simp only [Act.put, List.setIfInBounds_toArray, List.set_cons_succ, List.set_cons_zero] at ha1
        subst hk1 ha1
        apply Mono.is0
        · kernel_rfl
        · intro W hW
          have e2 := He2.out
          go_wp2
          refine ⟨rfl, rfl, Grows.refl _, ?_⟩
          unfold Oper.valAt
          go_simp
          rfl
        intro k1 a1 hk1 ha1
        simp only [Nat.reduceAdd] at hk1
        simp only [Act.put, List.setIfInBounds_toArray, List.set_cons_succ, List.set_cons_zero] at ha1
        subst hk1 ha1
        iterate 3
          apply Mono.is0
          · kernel_rfl
          · intro W hW
            go_wp2
            refine ⟨rfl, rfl, Grows.refl _, ?_⟩
            unfold Oper.valAt
            go_simp
            rfl
          intro k1 a1 hk1 ha1
          simp only [Nat.reduceAdd] at hk1
          simp only [Act.put, List.setIfInBounds_toArray, List.set_cons_succ, List.set_cons_zero] at ha1
          subst hk1 ha1
        apply Mono.is0
        · kernel_rfl
        · intro W hW
          have q1 := HC16.out W hW
          go_wp2
          refine ⟨rfl, rfl, Grows.refl _, ?_⟩
          unfold Oper.valAt
          go_simp
          rfl
        intro k1 a1 hk1 ha1
        simp only [Nat.reduceAdd] at hk1
        simp only [Act.put, List.setIfInBounds_toArray, List.set_cons_succ, List.set_cons_zero] at ha1
        subst hk1 ha1
        apply Mono.is0
        · kernel_rfl
        · intro W hW
          have e3 := He3.out
          go_wp2
          refine ⟨rfl, rfl, Grows.refl _, ?_⟩
          unfold Oper.valAt
          go_simp
          rfl
        intro k1 a1 hk1 ha1
        simp only [Nat.reduceAdd] at hk1
        simp only [Act.put, List.setIfInBounds_toArray, List.set_cons_succ, List.set_cons_zero] at ha1
        subst hk1 ha1
        apply Mono.is0
        · kernel_rfl
        · intro W hW
          go_wp2
          refine ⟨rfl, rfl, Grows.refl _, ?_⟩
          unfold Oper.valAt
          go_simp
          rfl
        intro k1 a1 hk1 ha1
        simp only [Nat.reduceAdd] at hk1
        simp only [Act.put, List.setIfInBounds_toArray, List.set_cons_succ, List.set_cons_zero] at ha1
        subst hk1 ha1
        refine Mono.done ?_
        intro wm hgm
        simp only [allF, List.drop_succ_cons, List.drop_zero]
        have HM := HMb.out.grows hgm
        have HB3 := lib_hid (blk_set32 HM i e3)
        rw [Hset.out] at HB3
        have HB0s := lib_hid ((HB0b.out.grows hgm).far (p := ⟨gW, i, none⟩) Hne.out.1 (b32 e3))
        have HB1s := lib_hid ((HB1b.out.grows hgm).far (p := ⟨gW, i, none⟩) Hne.out.2.1 (b32 e3))
        have HSs : Hid (SB (wm.setCell ⟨gW, i, none⟩ (b32 e3)) (some ⟨bk, off, none⟩) 64 c bs) := Row.keeps (HSb.out.grows hgm) (keeps_set wm ⟨gW, i, none⟩ _) (fun p hp e => by cases hp; exact Hne.out.2.2.1 e)
        have Hgs : Hid (Grows w (wm.setCell ⟨gW, i, none⟩ (b32 e3))) := (Hgrb.out.trans hgm).setCell (p := ⟨gW, i, none⟩) Hne.out.2.2.2.1 _
        have cz := cell32 HM i (by rw [HWl.out]; have := Hkb.out.1; omega)
        have fz := HM.frozen i
        have hzm : gW < wm.heap.size := HM.lt
        clear HM hgm HMb HB0b HB1b HSb Hgrb HC16 HC7
        go_wp2
        go_roundw
        case rel => exact ⟨i + 1, by have := Hkb.out.1; omega, by go_num, Hgs, HB0s, HB1s, HSs, HB3⟩
        case measure => have := Hkb.out.1; simp [intOf]; omega
    · have hki : ¬ (i : Int) < 64 := by omega
      have hi64 : i = 64 := by omega
      rw [hi64, wF_all] at HM
      clear hi64 hi
      obtain ⟨ws, Hws, Hwl⟩ : ∃ ws, Hid (schedF bs = ws) ∧ Hid (ws.length = 64) := ⟨_, lib_hid rfl, lib_hid (schedF_len bs)⟩
      rw [Hws.out] at HM
      obtain ⟨ks, Hks⟩ : ∃ ks, Hid (shaK = ks) := ⟨_, lib_hid rfl⟩
      have Hro : Hid (∀ (t : Nat) (W : World), t < 64 → Calls Tryd.prog 47 #[.int .i64 (t : Int)] W fun e w' => e = .returned (b32 (ks.getD t 0)) ∧ Grows W w') := fun t W ht => by rw [← Hks.out]; exact round_any t W ht
      have HT : Hid (∀ V, roundsF ks ws h 64 = V → blockF shaK h bs = addV h V) := fun V hV => by unfold blockF; rw [Hws.out, Hks.out, hV]
      obtain ⟨V0, HV0⟩ : ∃ V, Hid (h = V) := ⟨_, lib_hid rfl⟩
      have HR0 : Hid (roundsF ks ws h 0 = V0) := by rw [← HV0.out]; exact lib_hid (roundsF_zero _ _ _)
      have HBh : Hid (Blk wr g0 51 (V0.list.map b32).toArray) := by rw [← HV0.out, show (h.list.map b32).toArray = hc from Hhc.out]; exact HB0
      have HBh2 := HBh
      obtain ⟨ya, yb, yc, yd, ye, yf, yg, yh⟩ := V0
      have HC0 : Hid (∀ W, Grows wr W → W.cell? ⟨g0, 0, none⟩ = some (.int .u32 (ya.toNat : Int))) := fun W hW => cell32 (HBh.out.grows hW) 0 (by simp [V8.list])
      have HC1 : Hid (∀ W, Grows wr W → W.cell? ⟨g0, 1, none⟩ = some (.int .u32 (yb.toNat : Int))) := fun W hW => cell32 (HBh.out.grows hW) 1 (by simp [V8.list])
      have HC2 : Hid (∀ W, Grows wr W → W.cell? ⟨g0, 2, none⟩ = some (.int .u32 (yc.toNat : Int))) := fun W hW => cell32 (HBh.out.grows hW) 2 (by simp [V8.list])
      have HC3 : Hid (∀ W, Grows wr W → W.cell? ⟨g0, 3, none⟩ = some (.int .u32 (yd.toNat : Int))) := fun W hW => cell32 (HBh.out.grows hW) 3 (by simp [V8.list])
      have HC4 : Hid (∀ W, Grows wr W → W.cell? ⟨g0, 4, none⟩ = some (.int .u32 (ye.toNat : Int))) := fun W hW => cell32 (HBh.out.grows hW) 4 (by simp [V8.list])
      have HC5 : Hid (∀ W, Grows wr W → W.cell? ⟨g0, 5, none⟩ = some (.int .u32 (yf.toNat : Int))) := fun W hW => cell32 (HBh.out.grows hW) 5 (by simp [V8.list])
      have HC6 : Hid (∀ W, Grows wr W → W.cell? ⟨g0, 6, none⟩ = some (.int .u32 (yg.toNat : Int))) := fun W hW => cell32 (HBh.out.grows hW) 6 (by simp [V8.list])
      have HC7 : Hid (∀ W, Grows wr W → W.cell? ⟨g0, 7, none⟩ = some (.int .u32 (yh.toNat : Int))) := fun W hW => cell32 (HBh.out.grows hW) 7 (by simp [V8.list])
      clear hlt HWl HS
      go_upto_region 10 with fail
      clear hki
      apply wp_region_mono 24 ((.is _, []) :: (.is _, []) :: (.is _, []) :: (.is _, []) :: (.is _, []) :: (.is _, []) :: (.is _, []) :: (.is _, []) :: (.is _, []) :: (.is _, []) :: (.is _, []) :: (.is _, []) :: (.is _, []) :: (.is _, []) :: (.is _, []) :: (.is _, []) :: (.is _, []) :: (.is _, []) :: (.is _, []) :: (.is _, []) :: (.is _, []) :: (.is _, []) :: (.is _, []) :: (.is _, []) :: []) (by kernel_rfl) (by kernel_rfl)
      apply Mono.is0
      · kernel_rfl
      · intro W hW
        go_wp2
        refine ⟨rfl, rfl, Grows.refl _, ?_⟩
        unfold Oper.valAt
        go_simp
        rfl
      intro k1 a1 hk1 ha1
      simp only [Nat.reduceAdd] at hk1
      simp only [Act.put, List.setIfInBounds_toArray, List.set_cons_succ, List.set_cons_zero] at ha1
      subst hk1 ha1
      apply Mono.is0
      · kernel_rfl
      · intro W hW
        have q1 := HC0.out W hW
        go_wp2
        refine ⟨rfl, rfl, Grows.refl _, ?_⟩
        unfold Oper.valAt
        go_simp
        rfl
      intro k1 a1 hk1 ha1
      simp only [Nat.reduceAdd] at hk1
      simp only [Act.put, List.setIfInBounds_toArray, List.set_cons_succ, List.set_cons_zero] at ha1
      subst hk1 ha1
      apply Mono.is0
      · kernel_rfl
      · intro W hW
        go_wp2
        refine ⟨rfl, rfl, Grows.refl _, ?_⟩
        unfold Oper.valAt
        go_simp
        rfl
      intro k1 a1 hk1 ha1
      simp only [Nat.reduceAdd] at hk1
      simp only [Act.put, List.setIfInBounds_toArray, List.set_cons_succ, List.set_cons_zero] at ha1
      subst hk1 ha1
      apply Mono.is0
      · kernel_rfl
      · intro W hW
        have q1 := HC1.out W hW
        go_wp2
        refine ⟨rfl, rfl, Grows.refl _, ?_⟩
        unfold Oper.valAt
        go_simp
        rfl
      intro k1 a1 hk1 ha1
      simp only [Nat.reduceAdd] at hk1
      simp only [Act.put, List.setIfInBounds_toArray, List.set_cons_succ, List.set_cons_zero] at ha1
      subst hk1 ha1
      apply Mono.is0
      · kernel_rfl
      · intro W hW
        go_wp2
        refine ⟨rfl, rfl, Grows.refl _, ?_⟩
        unfold Oper.valAt
        go_simp
        rfl
      intro k1 a1 hk1 ha1
      simp only [Nat.reduceAdd] at hk1
      simp only [Act.put, List.setIfInBounds_toArray, List.set_cons_succ, List.set_cons_zero] at ha1
      subst hk1 ha1
      apply Mono.is0
      · kernel_rfl
      · intro W hW
        have q1 := HC2.out W hW
        go_wp2
        refine ⟨rfl, rfl, Grows.refl _, ?_⟩
        unfold Oper.valAt
        go_simp
        rfl
      intro k1 a1 hk1 ha1
      simp only [Nat.reduceAdd] at hk1
      simp only [Act.put, List.setIfInBounds_toArray, List.set_cons_succ, List.set_cons_zero] at ha1
      subst hk1 ha1
      apply Mono.is0
      · kernel_rfl
      · intro W hW
        go_wp2
        refine ⟨rfl, rfl, Grows.refl _, ?_⟩
        unfold Oper.valAt
        go_simp
        rfl
      intro k1 a1 hk1 ha1
      simp only [Nat.reduceAdd] at hk1
      simp only [Act.put, List.setIfInBounds_toArray, List.set_cons_succ, List.set_cons_zero] at ha1
      subst hk1 ha1
      apply Mono.is0
      · kernel_rfl
      · intro W hW
        have q1 := HC3.out W hW
        go_wp2
        refine ⟨rfl, rfl, Grows.refl _, ?_⟩
        unfold Oper.valAt
        go_simp
        rfl
      intro k1 a1 hk1 ha1
      simp only [Nat.reduceAdd] at hk1
      simp only [Act.put, List.setIfInBounds_toArray, List.set_cons_succ, List.set_cons_zero] at ha1
      subst hk1 ha1
      apply Mono.is0
      · kernel_rfl
      · intro W hW
        go_wp2
        refine ⟨rfl, rfl, Grows.refl _, ?_⟩
        unfold Oper.valAt
        go_simp
        rfl
      intro k1 a1 hk1 ha1
      simp only [Nat.reduceAdd] at hk1
      simp only [Act.put, List.setIfInBounds_toArray, List.set_cons_succ, List.set_cons_zero] at ha1
      subst hk1 ha1
      apply Mono.is0
      · kernel_rfl
      · intro W hW
        have q1 := HC4.out W hW
        go_wp2
        refine ⟨rfl, rfl, Grows.refl _, ?_⟩
        unfold Oper.valAt
        go_simp
        rfl
      intro k1 a1 hk1 ha1
      simp only [Nat.reduceAdd] at hk1
      simp only [Act.put, List.setIfInBounds_toArray, List.set_cons_succ, List.set_cons_zero] at ha1
      subst hk1 ha1
      apply Mono.is0
      · kernel_rfl
      · intro W hW
        go_wp2
        refine ⟨rfl, rfl, Grows.refl _, ?_⟩
        unfold Oper.valAt
        go_simp
        rfl
      intro k1 a1 hk1 ha1
      simp only [Nat.reduceAdd] at hk1
      simp only [Act.put, List.setIfInBounds_toArray, List.set_cons_succ, List.set_cons_zero] at ha1
      subst hk1 ha1
      apply Mono.is0
      · kernel_rfl
      · intro W hW
        have q1 := HC5.out W hW
        go_wp2
        refine ⟨rfl, rfl, Grows.refl _, ?_⟩
        unfold Oper.valAt
        go_simp
        rfl
      intro k1 a1 hk1 ha1
      simp only [Nat.reduceAdd] at hk1
      simp only [Act.put, List.setIfInBounds_toArray, List.set_cons_succ, List.set_cons_zero] at ha1
      subst hk1 ha1
      apply Mono.is0
      · kernel_rfl
      · intro W hW
        go_wp2
        refine ⟨rfl, rfl, Grows.refl _, ?_⟩
        unfold Oper.valAt
        go_simp
        rfl
      intro k1 a1 hk1 ha1
      simp only [Nat.reduceAdd] at hk1
      simp only [Act.put, List.setIfInBounds_toArray, List.set_cons_succ, List.set_cons_zero] at ha1
      subst hk1 ha1
      apply Mono.is0
      · kernel_rfl
      · intro W hW
        have q1 := HC6.out W hW
        go_wp2
        refine ⟨rfl, rfl, Grows.refl _, ?_⟩
        unfold Oper.valAt
        go_simp
        rfl
      intro k1 a1 hk1 ha1
      simp only [Nat.reduceAdd] at hk1
      simp only [Act.put, List.setIfInBounds_toArray, List.set_cons_succ, List.set_cons_zero] at ha1
      subst hk1 ha1
      apply Mono.is0
      · kernel_rfl
      · intro W hW
        go_wp2
        refine ⟨rfl, rfl, Grows.refl _, ?_⟩
        unfold Oper.valAt
        go_simp
        rfl
      intro k1 a1 hk1 ha1
      simp only [Nat.reduceAdd] at hk1
      simp only [Act.put, List.setIfInBounds_toArray, List.set_cons_succ, List.set_cons_zero] at ha1
      subst hk1 ha1
      apply Mono.is0
      · kernel_rfl
      · intro W hW
        have q1 := HC7.out W hW
        go_wp2
        refine ⟨rfl, rfl, Grows.refl _, ?_⟩
        unfold Oper.valAt
        go_simp
        rfl
      intro k1 a1 hk1 ha1
      simp only [Nat.reduceAdd] at hk1
      simp only [Act.put, List.setIfInBounds_toArray, List.set_cons_succ, List.set_cons_zero] at ha1
      subst hk1 ha1
      iterate 8
        apply Mono.is0
        · kernel_rfl
        · intro W hW
          go_wp2
          refine ⟨rfl, rfl, Grows.refl _, ?_⟩
          unfold Oper.valAt
          go_simp
          rfl
        intro k1 a1 hk1 ha1
        simp only [Nat.reduceAdd] at hk1
        simp only [Act.put, List.setIfInBounds_toArray, List.set_cons_succ, List.set_cons_zero] at ha1
        subst hk1 ha1
      refine Mono.done ?_
      intro wa hga
      simp only [allF, List.drop_succ_cons, List.drop_nil]
      have Hga : Hid (Grows w wa) := Hgr.out.trans hga
      have HBh3 := lib_hid (HBh.out.grows hga)
      have HB13 := lib_hid (HB1.out.grows hga)
      have HM3 := lib_hid (HM.out.grows hga)
      clear HC0 HC1 HC2 HC3 HC4 HC5 HC6 HC7 HBh HBh2 HB0 HB1 HM Hgr hga
      go_wp2
      go_loopw [9, 10, 11, 12, 13, 14, 15, 16, 17] (fun s9 s10 s11 s12 s13 s14 s15 s16 s17 wr => ∃ (t : Nat) (a b cv d e f g hh : UInt32), t ≤ 64 ∧ s17 = .int .i64 (t : Int) ∧ s9 = .int .u32 (a.toNat : Int) ∧ s10 = .int .u32 (b.toNat : Int) ∧ s11 = .int .u32 (cv.toNat : Int) ∧ s12 = .int .u32 (d.toNat : Int) ∧ s13 = .int .u32 (e.toNat : Int) ∧ s14 = .int .u32 (f.toNat : Int) ∧ s15 = .int .u32 (g.toNat : Int) ∧ s16 = .int .u32 (hh.toNat : Int) ∧ Hid (roundsF ks ws h t = ⟨a, b, cv, d, e, f, g, hh⟩) ∧ Hid (Grows w wr) ∧ Hid (Blk wr g0 51 ((V8.list ⟨ya, yb, yc, yd, ye, yf, yg, yh⟩).map b32).toArray) ∧ Hid (Blk wr gR 51 zc) ∧ Hid (Blk wr gW 75 (ws.map b32).toArray)) (fun _ _ _ _ _ _ _ _ v _ => 64 - (intOf v).toNat)
      case atStart => exact ⟨0, ya, yb, yc, yd, ye, yf, yg, yh, by omega, rfl, rfl, rfl, rfl, rfl, rfl, rfl, rfl, rfl, HR0, Hga, HBh3, HB13, HM3⟩
      case round =>
        clear HR0 Hga HBh3 HB13 HM3
        obtain ⟨t, a, b, cv, d, e, f, g, hh, ht, rfl, rfl, rfl, rfl, rfl, rfl, rfl, rfl, rfl, HV, Hgr, HB0, HB1, HM⟩ := hrel
        by_cases hlt : t < 64
        · have hkt : (t : Int) < 64 := by omega
          have Hki := lib_hid hkt
          obtain ⟨kv, Hkv⟩ : ∃ x, Hid (ks.getD t 0 = x) := ⟨_, lib_hid rfl⟩
          obtain ⟨wv, Hwv⟩ : ∃ x, Hid (ws.getD t 0 = x) := ⟨_, lib_hid rfl⟩
          have HRo : Hid (∀ W : World, Calls Tryd.prog 47 #[.int .i64 (t : Int)] W fun e w' => e = .returned (.int .u32 (kv.toNat : Int)) ∧ Grows W w') := fun W => by rw [← Hkv.out]; exact Hro.out t W hlt
          have HCw0 : Hid (∀ W, Grows wr W → W.cell? ⟨gW, t, none⟩ = some (.int .u32 (wv.toNat : Int))) := fun W hW => by rw [← Hwv.out]; exact cell32 (HM.out.grows hW) t (by rw [Hwl.out]; exact hlt)
          obtain ⟨m1, Hm1, hm1⟩ : ∃ v : UInt32, Hid (e &&& f = v) ∧ bits .and .u32 (e.toNat : Int) (f.toNat : Int) = (v.toNat : Int) := ⟨_, lib_hid rfl, u32_and _ _⟩
          obtain ⟨ne, Hne2, hne2⟩ : ∃ v : UInt32, Hid (~~~e = v) ∧ IntKind.u32.wrap (4294967295 - (e.toNat : Int)) = (v.toNat : Int) := ⟨_, lib_hid rfl, u32_sub_not _⟩
          obtain ⟨m2, Hm2, hm2⟩ : ∃ v : UInt32, Hid (ne &&& g = v) ∧ bits .and .u32 (ne.toNat : Int) (g.toNat : Int) = (v.toNat : Int) := ⟨_, lib_hid rfl, u32_and _ _⟩
          obtain ⟨ch, Hch, hch⟩ : ∃ v : UInt32, Hid (m1 ||| m2 = v) ∧ bits .or .u32 (m1.toNat : Int) (m2.toNat : Int) = (v.toNat : Int) := ⟨_, lib_hid rfl, u32_or _ _⟩
          obtain ⟨a1, Ha1, ha1⟩ : ∃ v : UInt32, Hid (a &&& b = v) ∧ bits .and .u32 (a.toNat : Int) (b.toNat : Int) = (v.toNat : Int) := ⟨_, lib_hid rfl, u32_and _ _⟩
          obtain ⟨a2, Ha2, ha2⟩ : ∃ v : UInt32, Hid (a &&& cv = v) ∧ bits .and .u32 (a.toNat : Int) (cv.toNat : Int) = (v.toNat : Int) := ⟨_, lib_hid rfl, u32_and _ _⟩
          obtain ⟨a3, Ha3, ha3⟩ : ∃ v : UInt32, Hid (a1 ||| a2 = v) ∧ bits .or .u32 (a1.toNat : Int) (a2.toNat : Int) = (v.toNat : Int) := ⟨_, lib_hid rfl, u32_or _ _⟩
          obtain ⟨a4, Ha4, ha4⟩ : ∃ v : UInt32, Hid (b &&& cv = v) ∧ bits .and .u32 (b.toNat : Int) (cv.toNat : Int) = (v.toNat : Int) := ⟨_, lib_hid rfl, u32_and _ _⟩
          obtain ⟨mj, Hmj, hmj⟩ : ∃ v : UInt32, Hid (a3 ||| a4 = v) ∧ bits .or .u32 (a3.toNat : Int) (a4.toNat : Int) = (v.toNat : Int) := ⟨_, lib_hid rfl, u32_or _ _⟩
          obtain ⟨e6, He6⟩ : ∃ x, Hid (rotR e 6 = x) := ⟨_, lib_hid rfl⟩
          obtain ⟨e11, He11⟩ : ∃ x, Hid (rotR e 11 = x) := ⟨_, lib_hid rfl⟩
          obtain ⟨e25, He25⟩ : ∃ x, Hid (rotR e 25 = x) := ⟨_, lib_hid rfl⟩
          obtain ⟨a2r, Ha2r⟩ : ∃ x, Hid (rotR a 2 = x) := ⟨_, lib_hid rfl⟩
          obtain ⟨a13, Ha13⟩ : ∃ x, Hid (rotR a 13 = x) := ⟨_, lib_hid rfl⟩
          obtain ⟨a22, Ha22⟩ : ∃ x, Hid (rotR a 22 = x) := ⟨_, lib_hid rfl⟩
          obtain ⟨u1, Hu1, hu1⟩ : ∃ v : UInt32, Hid (e6 ^^^ e11 = v) ∧ bits .xor .u32 (e6.toNat : Int) (e11.toNat : Int) = (v.toNat : Int) := ⟨_, lib_hid rfl, u32_xor _ _⟩
          obtain ⟨t6, Ht6, ht6⟩ : ∃ v : UInt32, Hid (u1 ^^^ e25 = v) ∧ bits .xor .u32 (u1.toNat : Int) (e25.toNat : Int) = (v.toNat : Int) := ⟨_, lib_hid rfl, u32_xor _ _⟩
          obtain ⟨u2, Hu2, hu2⟩ : ∃ v : UInt32, Hid (a2r ^^^ a13 = v) ∧ bits .xor .u32 (a2r.toNat : Int) (a13.toNat : Int) = (v.toNat : Int) := ⟨_, lib_hid rfl, u32_xor _ _⟩
          obtain ⟨t2, Ht2, ht2⟩ : ∃ v : UInt32, Hid (u2 ^^^ a22 = v) ∧ bits .xor .u32 (u2.toNat : Int) (a22.toNat : Int) = (v.toNat : Int) := ⟨_, lib_hid rfl, u32_xor _ _⟩
          obtain ⟨s1, Hs1, hs1⟩ : ∃ v : UInt32, Hid (hh + t6 = v) ∧ Hid (IntKind.u32.wrap ((hh.toNat : Int) + (t6.toNat : Int)) = (v.toNat : Int)) := ⟨_, lib_hid rfl, lib_hid (u32_wrap_add _ _)⟩
          obtain ⟨s2, Hs2, hs2⟩ : ∃ v : UInt32, Hid (s1 + ch = v) ∧ Hid (IntKind.u32.wrap ((s1.toNat : Int) + (ch.toNat : Int)) = (v.toNat : Int)) := ⟨_, lib_hid rfl, lib_hid (u32_wrap_add _ _)⟩
          obtain ⟨s3, Hs3, hs3⟩ : ∃ v : UInt32, Hid (s2 + kv = v) ∧ Hid (IntKind.u32.wrap ((s2.toNat : Int) + (kv.toNat : Int)) = (v.toNat : Int)) := ⟨_, lib_hid rfl, lib_hid (u32_wrap_add _ _)⟩
          obtain ⟨one, Hone, hone⟩ : ∃ v : UInt32, Hid (s3 + wv = v) ∧ Hid (IntKind.u32.wrap ((s3.toNat : Int) + (wv.toNat : Int)) = (v.toNat : Int)) := ⟨_, lib_hid rfl, lib_hid (u32_wrap_add _ _)⟩
          obtain ⟨q9, Hq9, hq9⟩ : ∃ v : UInt32, Hid (one + t2 = v) ∧ Hid (IntKind.u32.wrap ((one.toNat : Int) + (t2.toNat : Int)) = (v.toNat : Int)) := ⟨_, lib_hid rfl, lib_hid (u32_wrap_add _ _)⟩
          obtain ⟨z1, Hz1, hz1⟩ : ∃ v : UInt32, Hid (q9 + mj = v) ∧ Hid (IntKind.u32.wrap ((q9.toNat : Int) + (mj.toNat : Int)) = (v.toNat : Int)) := ⟨_, lib_hid rfl, lib_hid (u32_wrap_add _ _)⟩
          obtain ⟨z2, Hz2, hz2⟩ : ∃ v : UInt32, Hid (d + one = v) ∧ Hid (IntKind.u32.wrap ((d.toNat : Int) + (one.toNat : Int)) = (v.toNat : Int)) := ⟨_, lib_hid rfl, lib_hid (u32_wrap_add _ _)⟩
          have Hnext : Hid (roundsF ks ws h (t + 1) = ⟨z1, a, b, cv, z2, e, f, g⟩) := by
            unfold Hid
            rw [roundsF, Hkv.out, Hwv.out, HV.out]
            show (⟨hh + turnF e 6 11 25 + ((e &&& f) ^^^ (~~~e &&& g)) + kv + wv + (turnF a 2 13 22 + ((a &&& b) ^^^ (a &&& cv) ^^^ (b &&& cv))), a, b, cv, d + (hh + turnF e 6 11 25 + ((e &&& f) ^^^ (~~~e &&& g)) + kv + wv), e, f, g⟩ : V8) = _
            rw [← or_choice, ← or_most, ← UInt32.add_assoc _ (turnF a 2 13 22)]
            unfold turnF
            rw [He6.out, He11.out, He25.out, Hu1.out, Ht6.out, Ha2r.out, Ha13.out, Ha22.out, Hu2.out, Ht2.out, Hm1.out, Hne2.out, Hm2.out, Hch.out, Ha1.out, Ha2.out, Ha3.out, Ha4.out, Hmj.out, Hs1.out, Hs2.out, Hs3.out, Hone.out, Hq9.out, Hz1.out, Hz2.out]
          have Hlt := lib_hid hlt
          clear hlt
          go_wp2_with fail
          refine (right_any e 6 _ (by decide) (by decide)).mono ?_
          rintro e1 va0 ⟨rfl, hva0⟩
          rw [He6.out]
          go_wp2_with fail
          refine (right_any e 11 _ (by decide) (by decide)).mono ?_
          rintro e1 va1 ⟨rfl, hva1⟩
          rw [He11.out]
          have hva1 := hva0.trans hva1
          go_wp2_with fail
          refine (right_any e 25 _ (by decide) (by decide)).mono ?_
          rintro e1 va2 ⟨rfl, hva2⟩
          rw [He25.out]
          have hva2 := hva1.trans hva2
          go_upto_region 16 with fail
          have HCw : Hid (∀ W, Grows va2 W → W.cell? ⟨gW, t, none⟩ = some (.int .u32 (wv.toNat : Int))) := fun W hW => HCw0.out W (hva2.trans hW)
          have Hva2 := lib_hid hva2
          clear hu1 ht6 hm1 hm2 hne2 hch hkt hva0 hva1 hva2 Hu1 Ht6 Hm1 Hm2 Hne2 Hch
          apply wp_region_mono 13 ((.is _, []) :: (.is _, []) :: (.is _, []) :: (.is _, []) :: (.is _, []) :: (.is _, []) :: (.is (.int .u32 (kv.toNat : Int)), []) :: (.is _, []) :: (.is _, []) :: (.is _, []) :: (.is _, []) :: (.is _, []) :: (.is _, []) :: []) (by kernel_rfl) (by kernel_rfl)
          iterate 2
            apply Mono.is0
            · kernel_rfl
            · intro W hW
              go_wp2
              refine ⟨rfl, rfl, Grows.refl _, ?_⟩
              unfold Oper.valAt
              go_simp
              rfl
            intro k1 a1 hk1 ha1
            simp only [Nat.reduceAdd] at hk1
            simp only [Act.put, List.setIfInBounds_toArray, List.set_cons_succ, List.set_cons_zero] at ha1
            subst hk1 ha1
          apply Mono.is0
          · kernel_rfl
          · intro W hW
            have q1 := hs1.out
            go_wp2
            refine ⟨rfl, rfl, Grows.refl _, ?_⟩
            unfold Oper.valAt
            go_simp
            rfl
          intro k1 a1 hk1 ha1
          simp only [Nat.reduceAdd] at hk1
          simp only [Act.put, List.setIfInBounds_toArray, List.set_cons_succ, List.set_cons_zero] at ha1
          subst hk1 ha1
          apply Mono.is0
          · kernel_rfl
          · intro W hW
            go_wp2
            refine ⟨rfl, rfl, Grows.refl _, ?_⟩
            unfold Oper.valAt
            go_simp
            rfl
          intro k1 a1 hk1 ha1
          simp only [Nat.reduceAdd] at hk1
          simp only [Act.put, List.setIfInBounds_toArray, List.set_cons_succ, List.set_cons_zero] at ha1
          subst hk1 ha1
          apply Mono.is0
          · kernel_rfl
          · intro W hW
            have q1 := hs2.out
            go_wp2
            refine ⟨rfl, rfl, Grows.refl _, ?_⟩
            unfold Oper.valAt
            go_simp
            rfl
          intro k1 a1 hk1 ha1
          simp only [Nat.reduceAdd] at hk1
          simp only [Act.put, List.setIfInBounds_toArray, List.set_cons_succ, List.set_cons_zero] at ha1
          subst hk1 ha1
          apply Mono.is0
          · kernel_rfl
          · intro W hW
            go_wp2
            refine ⟨rfl, rfl, Grows.refl _, ?_⟩
            unfold Oper.valAt
            go_simp
            rfl
          intro k1 a1 hk1 ha1
          simp only [Nat.reduceAdd] at hk1
          simp only [Act.put, List.setIfInBounds_toArray, List.set_cons_succ, List.set_cons_zero] at ha1
          subst hk1 ha1
          apply Mono.is0
          · kernel_rfl
          · intro W hW 
            go_wp2_with fail
            refine (HRo.out W).mono ?_
            rintro e1 w1 ⟨rfl, hg1⟩
            go_wp2
            exact ⟨rfl, rfl, hg1, rfl⟩
          intro k1 a1 hk1 ha1
          simp only [Nat.reduceAdd] at hk1
          simp only [Act.put, List.setIfInBounds_toArray, List.set_cons_succ, List.set_cons_zero] at ha1
          subst hk1 ha1
          apply Mono.is0
          · kernel_rfl
          · intro W hW
            have q1 := hs3.out
            go_wp2
            refine ⟨rfl, rfl, Grows.refl _, ?_⟩
            unfold Oper.valAt
            go_simp
            rfl
          intro k1 a1 hk1 ha1
          simp only [Nat.reduceAdd] at hk1
          simp only [Act.put, List.setIfInBounds_toArray, List.set_cons_succ, List.set_cons_zero] at ha1
          subst hk1 ha1
          apply Mono.is0
          · kernel_rfl
          · intro W hW
            go_wp2
            refine ⟨rfl, rfl, Grows.refl _, ?_⟩
            unfold Oper.valAt
            go_simp
            rfl
          intro k1 a1 hk1 ha1
          simp only [Nat.reduceAdd] at hk1
          simp only [Act.put, List.setIfInBounds_toArray, List.set_cons_succ, List.set_cons_zero] at ha1
          subst hk1 ha1
          apply Mono.is0
          · kernel_rfl
          · intro W hW
            have q0 := Hki.out
            go_wp2
            refine ⟨rfl, rfl, Grows.refl _, ?_⟩
            unfold Oper.valAt
            go_simp
            rfl
          intro k1 a1 hk1 ha1
          simp only [Nat.reduceAdd] at hk1
          simp only [Act.put, List.setIfInBounds_toArray, List.set_cons_succ, List.set_cons_zero] at ha1
          subst hk1 ha1
          apply Mono.is0
          · kernel_rfl
          · intro W hW
            have q1 := HCw.out W hW
            go_wp2
            refine ⟨rfl, rfl, Grows.refl _, ?_⟩
            unfold Oper.valAt
            go_simp
            rfl
          intro k1 a1 hk1 ha1
          simp only [Nat.reduceAdd] at hk1
          simp only [Act.put, List.setIfInBounds_toArray, List.set_cons_succ, List.set_cons_zero] at ha1
          subst hk1 ha1
          apply Mono.is0
          · kernel_rfl
          · intro W hW
            have q1 := hone.out
            go_wp2
            refine ⟨rfl, rfl, Grows.refl _, ?_⟩
            unfold Oper.valAt
            go_simp
            rfl
          intro k1 a1 hk1 ha1
          simp only [Nat.reduceAdd] at hk1
          simp only [Act.put, List.setIfInBounds_toArray, List.set_cons_succ, List.set_cons_zero] at ha1
          subst hk1 ha1
          apply Mono.is0
          · kernel_rfl
          · intro W hW
            go_wp2
            refine ⟨rfl, rfl, Grows.refl _, ?_⟩
            unfold Oper.valAt
            go_simp
            rfl
          intro k1 a1 hk1 ha1
          simp only [Nat.reduceAdd] at hk1
          simp only [Act.put, List.setIfInBounds_toArray, List.set_cons_succ, List.set_cons_zero] at ha1
          subst hk1 ha1
          refine Mono.done ?_
          intro wb hgb
          simp only [allF, List.drop_succ_cons, List.drop_nil]
          have Hwb := lib_hid (Hva2.out.trans hgb)
          clear hgb Hva2 HCw HCw0
          go_wp2_with fail
          refine (right_any a 2 _ (by decide) (by decide)).mono ?_
          rintro e1 vc0 ⟨rfl, hvc0⟩
          rw [Ha2r.out]
          go_wp2_with fail
          refine (right_any a 13 _ (by decide) (by decide)).mono ?_
          rintro e1 vc1 ⟨rfl, hvc1⟩
          rw [Ha13.out]
          have hvc1 := hvc0.trans hvc1
          go_wp2_with fail
          refine (right_any a 22 _ (by decide) (by decide)).mono ?_
          rintro e1 vc2 ⟨rfl, hvc2⟩
          rw [Ha22.out]
          have hvc2 := hvc1.trans hvc2
          have Hvc2 := lib_hid (Hwb.out.trans hvc2)
          clear hvc0 hvc1 hvc2 Hwb
          have q1 := hq9.out
          have q2 := hz1.out
          have q3 := hz2.out
          go_wp2
          go_roundw
          case rel => exact ⟨t + 1, z1, a, b, cv, z2, e, f, g, by have := Hlt.out; omega, by go_num, rfl, rfl, rfl, rfl, rfl, rfl, rfl, rfl, Hnext, Hgr.out.trans Hvc2.out, HB0.out.grows Hvc2.out, HB1.out.grows Hvc2.out, HM.out.grows Hvc2.out⟩
          case measure => have := Hlt.out; simp [intOf]; omega
        · have hkt : ¬ (t : Int) < 64 := by omega
          have ht64 : t = 64 := by omega
          subst ht64
          have HT2 := lib_hid (HT.out _ HV.out)
          clear HT HV HM hlt
          obtain ⟨o0, Ho0, ho0⟩ : ∃ v : UInt32, Hid (ya + a = v) ∧ Hid (IntKind.u32.wrap ((ya.toNat : Int) + (a.toNat : Int)) = (v.toNat : Int)) := ⟨_, lib_hid rfl, lib_hid (u32_wrap_add _ _)⟩
          obtain ⟨o1, Ho1, ho1⟩ : ∃ v : UInt32, Hid (yb + b = v) ∧ Hid (IntKind.u32.wrap ((yb.toNat : Int) + (b.toNat : Int)) = (v.toNat : Int)) := ⟨_, lib_hid rfl, lib_hid (u32_wrap_add _ _)⟩
          obtain ⟨o2, Ho2, ho2⟩ : ∃ v : UInt32, Hid (yc + cv = v) ∧ Hid (IntKind.u32.wrap ((yc.toNat : Int) + (cv.toNat : Int)) = (v.toNat : Int)) := ⟨_, lib_hid rfl, lib_hid (u32_wrap_add _ _)⟩
          obtain ⟨o3, Ho3, ho3⟩ : ∃ v : UInt32, Hid (yd + d = v) ∧ Hid (IntKind.u32.wrap ((yd.toNat : Int) + (d.toNat : Int)) = (v.toNat : Int)) := ⟨_, lib_hid rfl, lib_hid (u32_wrap_add _ _)⟩
          obtain ⟨o4, Ho4, ho4⟩ : ∃ v : UInt32, Hid (ye + e = v) ∧ Hid (IntKind.u32.wrap ((ye.toNat : Int) + (e.toNat : Int)) = (v.toNat : Int)) := ⟨_, lib_hid rfl, lib_hid (u32_wrap_add _ _)⟩
          obtain ⟨o5, Ho5, ho5⟩ : ∃ v : UInt32, Hid (yf + f = v) ∧ Hid (IntKind.u32.wrap ((yf.toNat : Int) + (f.toNat : Int)) = (v.toNat : Int)) := ⟨_, lib_hid rfl, lib_hid (u32_wrap_add _ _)⟩
          obtain ⟨o6, Ho6, ho6⟩ : ∃ v : UInt32, Hid (yg + g = v) ∧ Hid (IntKind.u32.wrap ((yg.toNat : Int) + (g.toNat : Int)) = (v.toNat : Int)) := ⟨_, lib_hid rfl, lib_hid (u32_wrap_add _ _)⟩
          obtain ⟨o7, Ho7, ho7⟩ : ∃ v : UInt32, Hid (yh + hh = v) ∧ Hid (IntKind.u32.wrap ((yh.toNat : Int) + (hh.toNat : Int)) = (v.toNat : Int)) := ⟨_, lib_hid rfl, lib_hid (u32_wrap_add _ _)⟩
          have HT3 : Hid (blockF shaK h bs = ⟨o0, o1, o2, o3, o4, o5, o6, o7⟩) := by
            unfold Hid
            rw [HT2.out, HV0.out]
            show (⟨ya + a, yb + b, yc + cv, yd + d, ye + e, yf + f, yg + g, yh + hh⟩ : V8) = _
            rw [Ho0.out, Ho1.out, Ho2.out, Ho3.out, Ho4.out, Ho5.out, Ho6.out, Ho7.out]
          clear HT2
          go_upto_region 20 with fail
          clear hkt
          have d0 : wr.cell? ⟨g0, 0, none⟩ = some (.int .u32 (ya.toNat : Int)) := cell32 HB0.out 0 (by simp [V8.list])
          have q0 := ho0.out
          have d1 : wr.cell? ⟨g0, 1, none⟩ = some (.int .u32 (yb.toNat : Int)) := cell32 HB0.out 1 (by simp [V8.list])
          have q1 := ho1.out
          have d2 : wr.cell? ⟨g0, 2, none⟩ = some (.int .u32 (yc.toNat : Int)) := cell32 HB0.out 2 (by simp [V8.list])
          have q2 := ho2.out
          have d3 : wr.cell? ⟨g0, 3, none⟩ = some (.int .u32 (yd.toNat : Int)) := cell32 HB0.out 3 (by simp [V8.list])
          have q3 := ho3.out
          have d4 : wr.cell? ⟨g0, 4, none⟩ = some (.int .u32 (ye.toNat : Int)) := cell32 HB0.out 4 (by simp [V8.list])
          have q4 := ho4.out
          have d5 : wr.cell? ⟨g0, 5, none⟩ = some (.int .u32 (yf.toNat : Int)) := cell32 HB0.out 5 (by simp [V8.list])
          have q5 := ho5.out
          have d6 : wr.cell? ⟨g0, 6, none⟩ = some (.int .u32 (yg.toNat : Int)) := cell32 HB0.out 6 (by simp [V8.list])
          have q6 := ho6.out
          have d7 : wr.cell? ⟨g0, 7, none⟩ = some (.int .u32 (yh.toNat : Int)) := cell32 HB0.out 7 (by simp [V8.list])
          have q7 := ho7.out
          go_wp2_with (refine wpList_store_blk rfl _ _ _ rfl gR ((V8.mk o0 o1 o2 o3 o4 o5 o6 o7).list.map b32).toArray rfl rfl 51 _ HB1.out (by rw [Tryd.size8]; rfl) (by rw [Hzl.out]; rfl) (b32_one _) w.heap.size w Hgr.out Hne.out.2.2.2.2 ?_; intro w6 H6 hb6 hg6)
          refine bodyPost_ret (results_cell_row rfl _ _ gR _ _ _ _ rfl H6 Tryd.underlying51 rfl (by rw [Tryd.size8]; rfl)) rfl ?_
          rw [HT3.out]
          exact ⟨rfl, hb6⟩

end Go.Proofs.YtnlffaglmcddkaaDoor
