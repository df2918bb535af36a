/-
  The walk of sha.Block.
-/
import Derived.Test.YtnlffaglmcddkaaDoorSha2
import Derived.Deep.Cut
import Derived.BigRegion
import Derived.RegionTactic
import Derived.Outline
import Derived.Great.BuildSlice
namespace Go.Proofs.YtnlffaglmcddkaaDoor
open Go Go.RowKit
set_option linter.unusedSimpArgs false


attribute [local irreducible] schedF moreW firstW
theorem u32_not (x : UInt32) : bits .xor .u32 IntKind.u32.max (x.toNat : Int) = ((~~~x).toNat : Int) := by
  have h := u32_xor (4294967295 : UInt32) x
  have e : (4294967295 : UInt32) ^^^ x = ~~~x := by
    apply UInt32.toBitVec_inj.1
    show BitVec.allOnes 32 ^^^ x.toBitVec = ~~~x.toBitVec
    exact BitVec.allOnes_xor
  rw [e] at h
  exact h
theorem run_unot {P : Program} (x : UInt32) (W : World) : Sem.run P (Op.unary .xor (.int .u32 (x.toNat : Int))) W = .ok (.int .u32 ((~~~x).toNat : Int)) W := by
  rw [← u32_not]
  rfl
theorem run_index_arr {P : Program} {t e : TypeId} {n : Nat} (ht : P.underlying t = some (.array n e)) (hs : (P.info? e).map (·.size) = some 1) (d : TypeDesc) (hag : (match d with | .struct _ | .array _ _ => true | _ => false) = false) (hd : P.underlying e = some d)
    (cs : Array Value) (v : Value) (k : IntKind) (i : Nat) (hi : i < n) (hv : cs[i]? = some v) (W : World) : Sem.run P (Instr.index t (.agg cs) (.int k (i : Int))) W = .ok v W := by
  obtain ⟨inf, hi', hi1⟩ := Option.map_eq_some_iff.1 hs
  have hz : (sizeOf e).run P W = .ok 1 W := by simp [sizeOf, typeInfo, hi', hi1]
  have hb : 0 ≤ (i : Int) ∧ (i : Int) < (n : Int) := by omega
  have ha : (isAgg e).run P W = .ok false W := by
    cases d <;> simp_all [isAgg, run_underlying hd]
  simp [Instr.index, run_underlying ht, asIntOf, hb, hz, ha, part, hv, go_sem]
  intro hh; omega

/-- A state: eight words. -/
structure V8 where
  (a b c d e f g h : UInt32)
def V8.list (v : V8) : List UInt32 := [v.a, v.b, v.c, v.d, v.e, v.f, v.g, v.h]
def roundF (k w : UInt32) (v : V8) : V8 :=
  let one := v.h + turnF v.e 6 11 25 + ((v.e &&& v.f) ^^^ (~~~v.e &&& v.g)) + k + w
  let two := turnF v.a 2 13 22 + ((v.a &&& v.b) ^^^ (v.a &&& v.c) ^^^ (v.b &&& v.c))
  ⟨one + two, v.a, v.b, v.c, v.d + one, v.e, v.f, v.g⟩
def roundsF (ks ws : List UInt32) (v : V8) : Nat → V8
  | 0 => v
  | i + 1 => roundF (ks.getD i 0) (ws.getD i 0) (roundsF ks ws v i)
def sumsF (h v : List UInt32) : Nat → List UInt32
  | 0 => h
  | i + 1 => (sumsF h v i).set i ((sumsF h v i).getD i 0 + v.getD i 0)
theorem sumsF_len (h v : List UInt32) (i : Nat) : (sumsF h v i).length = h.length := by
  induction i with
  | zero => rfl
  | succ i ih => simp [sumsF, ih]
def addV (h v : V8) : V8 := ⟨h.a + v.a, h.b + v.b, h.c + v.c, h.d + v.d, h.e + v.e, h.f + v.f, h.g + v.g, h.h + v.h⟩
theorem sumsF_all (h v : V8) : sumsF h.list v.list 8 = (addV h v).list := by
  obtain ⟨a, b, c, d, e, f, g, hh⟩ := h
  rfl
def blockF (ks : List UInt32) (h : V8) (bs : List UInt8) : V8 := addV h (roundsF ks (schedF bs) h 64)
def V8.vals (v : V8) : Array Value := (v.list.map b32).toArray
theorem Tryd.arr64 : Tryd.prog.underlying 75 = some (.array 64 50) := by kernel_rfl
theorem Tryd.size64B : (Tryd.prog.info? 55).map (·.size) = some 64 := by kernel_rfl
theorem Tryd.size32 : (Tryd.prog.info? 50).map (·.size) = some 1 := by kernel_rfl

theorem roundsF_zero (ks ws : List UInt32) (v : V8) : roundsF ks ws v 0 = v := rfl
theorem sumsF_zero (h v : List UInt32) : sumsF h v 0 = h := rfl
attribute [local irreducible] roundsF blockF sumsF
set_option maxRecDepth 100000 in
set_option maxHeartbeats 4000000 in
theorem block_any {tK : TypeId} (ks : List UInt32) (hkl : ks.length = 64) (h : V8) (bs : List UInt8) (w : World) (hb : bs.length = 64) (HK0 : Hid (Blk w 0 tK (ks.map b32).toArray)) :
    Calls Tryd.prog 23 #[.agg h.vals, .agg (bs.map b8).toArray] w fun e w' => e = .returned (.agg (blockF ks h bs).vals) ∧ Grows w w' := by
  have HKl := lib_hid hkl
  clear hkl
  obtain ⟨hc, Hhc, hcl, hc1⟩ : ∃ hc : Array Value, Hid (h.vals = hc) ∧ hc.size = 8 ∧ hc.all (·.oneCell') = true := ⟨_, lib_hid rfl, rfl, b32_one _⟩
  obtain ⟨W0, HW0, hg0⟩ : ∃ W0 : World, Hid (W0 = ((w.alloc (.cells hc 51)).alloc (.cells (bs.map b8).toArray 55)).alloc (.cells #[Value.int .u32 0, Value.int .u32 0, Value.int .u32 0, Value.int .u32 0, Value.int .u32 0, Value.int .u32 0, Value.int .u32 0, Value.int .u32 0] 51)) ∧ Grows w W0 := ⟨_, lib_hid rfl, (((Grows.refl w).alloc _).alloc _).alloc _⟩
  have HB0 : Hid (Blk W0 w.heap.size 51 hc) := by
    unfold Hid; rw [HW0.out]; exact ((Blk.new w _ _).alloc _).alloc _
  have HB1 : Hid (Blk W0 (w.heap.size + 1) 55 (bs.map b8).toArray) := by
    unfold Hid; rw [HW0.out]
    have := (Blk.new (w.alloc (.cells hc 51)) 55 (bs.map b8).toArray).alloc (.cells #[Value.int .u32 0, Value.int .u32 0, Value.int .u32 0, Value.int .u32 0, Value.int .u32 0, Value.int .u32 0, Value.int .u32 0, Value.int .u32 0] 51)
    simpa using this
  have HB2 : Hid (Blk W0 (w.heap.size + 1 + 1) 51 #[Value.int .u32 0, Value.int .u32 0, Value.int .u32 0, Value.int .u32 0, Value.int .u32 0, Value.int .u32 0, Value.int .u32 0, Value.int .u32 0]) := by
    unfold Hid; rw [HW0.out]
    have := Blk.new ((w.alloc (.cells hc 51)).alloc (.cells (bs.map b8).toArray 55)) 51 #[Value.int .u32 0, Value.int .u32 0, Value.int .u32 0, Value.int .u32 0, Value.int .u32 0, Value.int .u32 0, Value.int .u32 0, Value.int .u32 0]
    simpa using this
  obtain ⟨zc, Hzc, hzl⟩ : ∃ zc : Array Value, Hid (#[Value.int .u32 0, Value.int .u32 0, Value.int .u32 0, Value.int .u32 0, Value.int .u32 0, Value.int .u32 0, Value.int .u32 0, Value.int .u32 0] = zc) ∧ zc.size = 8 := ⟨_, lib_hid rfl, rfl⟩
  obtain ⟨gV, HgV⟩ : ∃ g, Hid (W0.heap.size = g) := ⟨_, lib_hid rfl⟩
  obtain ⟨g0, Hg0⟩ : ∃ g, Hid (w.heap.size = g) := ⟨_, lib_hid rfl⟩
  obtain ⟨gB, HgB⟩ : ∃ g, Hid (w.heap.size + 1 = g) := ⟨_, lib_hid rfl⟩
  obtain ⟨gR, HgR⟩ : ∃ g, Hid (w.heap.size + 1 + 1 = g) := ⟨_, lib_hid rfl⟩
  have hz0 : W0.heap.size = w.heap.size + 3 := by rw [HW0.out]; simp
  have Hne : Hid (g0 ≠ gV ∧ gR ≠ gV ∧ gB ≠ gV ∧ gR ≠ g0 ∧ w.heap.size ≤ g0 ∧ w.heap.size ≤ gR ∧ w.heap.size ≤ gV ∧ 0 < w.heap.size ∧ 0 ≠ gV ∧ 0 ≠ g0 ∧ gV ≠ g0 ∧ gV ≠ gR) := by
    have := Hg0.out; have := HgR.out; have := HgV.out; have := HgB.out; have := HK0.out.lt; unfold Hid; omega
  have HB0' : Hid (Blk W0 g0 51 hc) := by rw [← Hg0.out]; exact HB0
  have HB1' : Hid (Blk W0 gB 55 (bs.map b8).toArray) := by rw [← HgB.out]; exact HB1
  have HB2' : Hid (Blk W0 gR 51 zc) := by rw [← HgR.out, ← Hzc.out]; exact HB2
  obtain ⟨bc, Hbc, hbl⟩ : ∃ bc : Array Value, Hid ((bs.map b8).toArray = bc) ∧ bc.size = 64 := ⟨_, lib_hid rfl, by simp [hb]⟩
  have Hlen := lib_hid hb
  rw [Hhc.out]
  clear HB0 HB1 HB2
  go_enter Tryd.func23, Tryd.ntmps23
  go_upto_region 1 with fail
  rw [← HW0.out, HgR.out, HgB.out, Hg0.out]
  have HgW : Hid (Grows W0 (W0.alloc (.cells #[Value.int .u32 0, Value.int .u32 0, Value.int .u32 0, Value.int .u32 0, Value.int .u32 0, Value.int .u32 0, Value.int .u32 0, Value.int .u32 0] 51))) := (Grows.refl _).alloc _
  have HBN : Hid (Blk (W0.alloc (.cells #[Value.int .u32 0, Value.int .u32 0, Value.int .u32 0, Value.int .u32 0, Value.int .u32 0, Value.int .u32 0, Value.int .u32 0, Value.int .u32 0] 51)) W0.heap.size 51 #[Value.int .u32 0, Value.int .u32 0, Value.int .u32 0, Value.int .u32 0, Value.int .u32 0, Value.int .u32 0, Value.int .u32 0, Value.int .u32 0]) := Blk.new _ _ _
  have HgVl : Hid (w.heap.size ≤ W0.heap.size) := hg0.le
  clear HW0 hz0 hb
  go_upto_region 2 with (first
    | (refine wpList_load_blk rfl _ _ rfl g0 rfl _ hc _ HB0'.out rfl rfl (by rw [Tryd.size8, hcl]) ?_)
    | (refine wpList_store_blk rfl _ _ _ rfl W0.heap.size hc rfl rfl 51 _ HBN.out (by rw [Tryd.size8, hcl]) (by rw [hcl]; rfl) hc1 w.heap.size w (hg0.trans HgW.out) HgVl.out ?_; intro w3 H3 hb3 hg3))
  rw [HgV.out] at H3 hg3
  rw [HgV.out]
  have Hg3 : Hid (Grows w w3) := hb3
  have HV0 : Hid (Blk w3 gV 51 (h.list.map b32).toArray) := by unfold Hid; rw [show (h.list.map b32).toArray = hc from Hhc.out]; exact H3
  have HB03 : Hid (Blk w3 g0 51 (h.list.map b32).toArray) := by
    unfold Hid; rw [show (h.list.map b32).toArray = hc from Hhc.out]; exact (HB0'.out.grows HgW.out).grown hg3 (by simp [Hne.out.1])
  have HBR3 : Hid (Blk w3 gR 51 zc) := (HB2'.out.grows HgW.out).grown hg3 (by simp [Hne.out.2.1])
  have HBB3 : Hid (Blk w3 gB 55 bc) := by rw [← Hbc.out]; exact (HB1'.out.grows HgW.out).grown hg3 (by simp [Hne.out.2.2.1])
  have HK3 : Hid (Blk w3 0 tK (ks.map b32).toArray) := HK0.out.grows Hg3.out
  have Hzl := lib_hid hzl
  clear hcl hc1 hzl HgVl Hhc
  clear HB0' HB1' HB2' HgW HBN hb3 hg3 H3 hg0 HK0 HgV Hg0 HgB HgR
  have HSP : Hid (Calls Tryd.prog 42 #[.agg bc] w3 fun e w' => e = .returned (.agg ((schedF bs).map b32).toArray) ∧ Grows w3 w') := by
    rw [← Hbc.out]; exact spread_any bs w3 Hlen.out
  go_wp2_with (refine wpList_load_blk rfl _ _ rfl gB rfl _ bc _ HBB3.out rfl rfl (by rw [Tryd.size64B, hbl]) ?_)
  refine HSP.out.mono ?_
  rintro e w4 ⟨rfl, hg4⟩
  have Hg4 : Hid (Grows w w4) := Hg3.out.trans hg4
  have HV4 := lib_hid (HV0.out.grows hg4)
  have HB04 := lib_hid (HB03.out.grows hg4)
  have HBR4 := lib_hid (HBR3.out.grows hg4)
  have HK4 := lib_hid (HK3.out.grows hg4)
  obtain ⟨ws, Hws, Hwl⟩ : ∃ ws, Hid (schedF bs = ws) ∧ Hid (ws.length = 64) := ⟨_, lib_hid rfl, lib_hid (schedF_len bs)⟩
  rw [Hws.out]
  clear HV0 HB03 HBR3 HBB3 HK3 HSP hg4 Hg3 hbl Hbc
  go_wp2
  go_loopw [16] (fun v wr => ∃ i : Nat, i ≤ 64 ∧ v = .int .i64 (i : Int) ∧ Hid (Grows w wr) ∧ Hid (Blk wr g0 51 (h.list.map b32).toArray) ∧ Hid (Blk wr gR 51 zc) ∧ Hid (Blk wr 0 tK (ks.map b32).toArray) ∧ Hid (Blk wr gV 51 ((roundsF ks ws h i).list.map b32).toArray)) (fun v _ => 64 - (intOf v).toNat)
  case atStart => exact ⟨0, by omega, rfl, Hg4, HB04, HBR4, HK4, by rw [roundsF_zero]; exact HV4⟩
  case round =>
    clear Hg4 HB04 HBR4 HK4 HV4
    obtain ⟨i, hi, rfl, Hgr, HB0, HBR, HK, HV⟩ := hrel
    by_cases hlt : i < 64
    · obtain ⟨V, HVn⟩ : ∃ V, Hid (roundsF ks ws h i = V) := ⟨_, lib_hid rfl⟩
      rw [HVn.out] at HV
      obtain ⟨a, b, c, d, e, f, g, hh⟩ := V
      have HC0 : Hid (∀ W, Grows wr W → W.cell? ⟨gV, 0, none⟩ = some (.int .u32 (a.toNat : Int))) := fun W hW => cell32 (HV.out.grows hW) 0 (by simp [V8.list])
      have HC1 : Hid (∀ W, Grows wr W → W.cell? ⟨gV, 1, none⟩ = some (.int .u32 (b.toNat : Int))) := fun W hW => cell32 (HV.out.grows hW) 1 (by simp [V8.list])
      have HC2 : Hid (∀ W, Grows wr W → W.cell? ⟨gV, 2, none⟩ = some (.int .u32 (c.toNat : Int))) := fun W hW => cell32 (HV.out.grows hW) 2 (by simp [V8.list])
      have HC3 : Hid (∀ W, Grows wr W → W.cell? ⟨gV, 3, none⟩ = some (.int .u32 (d.toNat : Int))) := fun W hW => cell32 (HV.out.grows hW) 3 (by simp [V8.list])
      have HC4 : Hid (∀ W, Grows wr W → W.cell? ⟨gV, 4, none⟩ = some (.int .u32 (e.toNat : Int))) := fun W hW => cell32 (HV.out.grows hW) 4 (by simp [V8.list])
      have HC5 : Hid (∀ W, Grows wr W → W.cell? ⟨gV, 5, none⟩ = some (.int .u32 (f.toNat : Int))) := fun W hW => cell32 (HV.out.grows hW) 5 (by simp [V8.list])
      have HC6 : Hid (∀ W, Grows wr W → W.cell? ⟨gV, 6, none⟩ = some (.int .u32 (g.toNat : Int))) := fun W hW => cell32 (HV.out.grows hW) 6 (by simp [V8.list])
      have HC7 : Hid (∀ W, Grows wr W → W.cell? ⟨gV, 7, none⟩ = some (.int .u32 (hh.toNat : Int))) := fun W hW => cell32 (HV.out.grows hW) 7 (by simp [V8.list])
      obtain ⟨kv, Hkv⟩ : ∃ x, Hid (ks.getD i 0 = x) := ⟨_, lib_hid rfl⟩
      obtain ⟨wv, Hwv⟩ : ∃ x, Hid (ws.getD i 0 = x) := ⟨_, lib_hid rfl⟩
      have HCK : Hid (∀ W, Grows wr W → W.cell? ⟨0, i, none⟩ = some (.int .u32 (kv.toNat : Int))) := fun W hW => by rw [← Hkv.out]; exact cell32 (HK.out.grows hW) i (by rw [HKl.out]; exact hlt)
      have hix := fun W => run_index_arr (P := Tryd.prog) Tryd.arr64 Tryd.size32 _ rfl Tryd.underlying50 (ws.map b32).toArray (.int .u32 (wv.toNat : Int)) .i64 i hlt (by
        rw [← Hwv.out]
        simp only [List.getElem?_toArray, List.getElem?_map]
        rw [List.getElem?_eq_getElem (by rw [Hwl.out]; exact hlt), List.getD_eq_getElem?_getD, List.getElem?_eq_getElem (by rw [Hwl.out]; exact hlt)]
        rfl) W
      obtain ⟨m1, Hm1, hm1⟩ : ∃ v : UInt32, Hid (e &&& f = v) ∧ bits .and .u32 (e.toNat : Int) (f.toNat : Int) = (v.toNat : Int) := ⟨_, lib_hid rfl, u32_and _ _⟩
      obtain ⟨ne, Hne2, hne2⟩ : ∃ v : UInt32, Hid (~~~e = v) ∧ bits .xor .u32 IntKind.u32.max (e.toNat : Int) = (v.toNat : Int) := ⟨_, lib_hid rfl, u32_not _⟩
      obtain ⟨m2, Hm2, hm2⟩ : ∃ v : UInt32, Hid (ne &&& g = v) ∧ bits .and .u32 (ne.toNat : Int) (g.toNat : Int) = (v.toNat : Int) := ⟨_, lib_hid rfl, u32_and _ _⟩
      obtain ⟨ch, Hch, hch⟩ : ∃ v : UInt32, Hid (m1 ^^^ m2 = v) ∧ bits .xor .u32 (m1.toNat : Int) (m2.toNat : Int) = (v.toNat : Int) := ⟨_, lib_hid rfl, u32_xor _ _⟩
      obtain ⟨a1, Ha1, ha1⟩ : ∃ v : UInt32, Hid (a &&& b = v) ∧ bits .and .u32 (a.toNat : Int) (b.toNat : Int) = (v.toNat : Int) := ⟨_, lib_hid rfl, u32_and _ _⟩
      obtain ⟨a2, Ha2, ha2⟩ : ∃ v : UInt32, Hid (a &&& c = v) ∧ bits .and .u32 (a.toNat : Int) (c.toNat : Int) = (v.toNat : Int) := ⟨_, lib_hid rfl, u32_and _ _⟩
      obtain ⟨a3, Ha3, ha3⟩ : ∃ v : UInt32, Hid (a1 ^^^ a2 = v) ∧ bits .xor .u32 (a1.toNat : Int) (a2.toNat : Int) = (v.toNat : Int) := ⟨_, lib_hid rfl, u32_xor _ _⟩
      obtain ⟨a4, Ha4, ha4⟩ : ∃ v : UInt32, Hid (b &&& c = v) ∧ bits .and .u32 (b.toNat : Int) (c.toNat : Int) = (v.toNat : Int) := ⟨_, lib_hid rfl, u32_and _ _⟩
      obtain ⟨mj, Hmj, hmj⟩ : ∃ v : UInt32, Hid (a3 ^^^ a4 = v) ∧ bits .xor .u32 (a3.toNat : Int) (a4.toNat : Int) = (v.toNat : Int) := ⟨_, lib_hid rfl, u32_xor _ _⟩
      obtain ⟨t6, Ht6⟩ : ∃ v, Hid (turnF e 6 11 25 = v) := ⟨_, lib_hid rfl⟩
      obtain ⟨t2, Ht2⟩ : ∃ v, Hid (turnF a 2 13 22 = v) := ⟨_, lib_hid rfl⟩
      obtain ⟨s1, Hs1, hs1⟩ : ∃ v : UInt32, Hid (hh + t6 = v) ∧ Hid (IntKind.u32.wrap ((hh.toNat : Int) + (t6.toNat : Int)) = (v.toNat : Int)) := ⟨_, lib_hid rfl, lib_hid (u32_wrap_add _ _)⟩
      obtain ⟨s2, Hs2, hs2⟩ : ∃ v : UInt32, Hid (s1 + ch = v) ∧ Hid (IntKind.u32.wrap ((s1.toNat : Int) + (ch.toNat : Int)) = (v.toNat : Int)) := ⟨_, lib_hid rfl, lib_hid (u32_wrap_add _ _)⟩
      obtain ⟨s3, Hs3, hs3⟩ : ∃ v : UInt32, Hid (s2 + kv = v) ∧ Hid (IntKind.u32.wrap ((s2.toNat : Int) + (kv.toNat : Int)) = (v.toNat : Int)) := ⟨_, lib_hid rfl, lib_hid (u32_wrap_add _ _)⟩
      obtain ⟨one, Hone, hone⟩ : ∃ v : UInt32, Hid (s3 + wv = v) ∧ Hid (IntKind.u32.wrap ((s3.toNat : Int) + (wv.toNat : Int)) = (v.toNat : Int)) := ⟨_, lib_hid rfl, lib_hid (u32_wrap_add _ _)⟩
      obtain ⟨two, Htwo, htwo⟩ : ∃ v : UInt32, Hid (t2 + mj = v) ∧ Hid (IntKind.u32.wrap ((t2.toNat : Int) + (mj.toNat : Int)) = (v.toNat : Int)) := ⟨_, lib_hid rfl, lib_hid (u32_wrap_add _ _)⟩
      obtain ⟨z1, Hz1, hz1⟩ : ∃ v : UInt32, Hid (one + two = v) ∧ Hid (IntKind.u32.wrap ((one.toNat : Int) + (two.toNat : Int)) = (v.toNat : Int)) := ⟨_, lib_hid rfl, lib_hid (u32_wrap_add _ _)⟩
      obtain ⟨z2, Hz2, hz2⟩ : ∃ v : UInt32, Hid (d + one = v) ∧ Hid (IntKind.u32.wrap ((d.toNat : Int) + (one.toNat : Int)) = (v.toNat : Int)) := ⟨_, lib_hid rfl, lib_hid (u32_wrap_add _ _)⟩
      have Hnext : Hid (roundsF ks ws h (i + 1) = ⟨z1, a, b, c, z2, e, f, g⟩) := by
        unfold Hid
        rw [roundsF, Hkv.out, Hwv.out, HVn.out]
        show (⟨hh + turnF e 6 11 25 + ((e &&& f) ^^^ (~~~e &&& g)) + kv + wv + (turnF a 2 13 22 + ((a &&& b) ^^^ (a &&& c) ^^^ (b &&& c))), a, b, c, d + (hh + turnF e 6 11 25 + ((e &&& f) ^^^ (~~~e &&& g)) + kv + wv), e, f, g⟩ : V8) = _
        rw [Ht6.out, Hm1.out, Hne2.out, Hm2.out, Hch.out, Hs1.out, Hs2.out, Hs3.out, Hone.out, Ht2.out, Ha1.out, Ha2.out, Ha3.out, Ha4.out, Hmj.out, Htwo.out, Hz1.out, Hz2.out]
      have Hki := lib_hid (show (i : Int) < 64 by omega)
      have hki := Hki.out
      have d0 := HC0.out _ (Grows.refl _)
      have d1 := HC1.out _ (Grows.refl _)
      have d2 := HC2.out _ (Grows.refl _)
      have d3 := HC3.out _ (Grows.refl _)
      have d4 := HC4.out _ (Grows.refl _)
      have d5 := HC5.out _ (Grows.refl _)
      have d6 := HC6.out _ (Grows.refl _)
      have d7 := HC7.out _ (Grows.refl _)
      go_upto_region 5 with fail
      clear hki hix
      have hsg : IntKind.u32.signed = false := rfl
      go_upto_region 7 with fail
      clear hsg
      clear d0 d1 d2 d3 d4 d5 d6 d7
      have Hlt := lib_hid hlt
      clear hlt
      clear hne2 hm1 hm2 hch ha1 ha2 ha3 ha4 hmj Hne2 Hm1 Hm2 Hch Ha1 Ha2 Ha3 Ha4 Hmj
      apply wp_region_mono 15 ((.is _, []) :: (.is _, []) :: (.is _, []) :: (.is _, []) :: (.is (.int .u32 (t6.toNat : Int)), []) :: (.is _, []) :: (.is _, []) :: (.is _, []) :: (.is _, []) :: (.is _, []) :: (.is _, []) :: (.is _, []) :: (.is _, []) :: (.is _, []) :: (.is _, []) :: []) (by kernel_rfl) (by kernel_rfl)
      apply Mono.is0
      · kernel_rfl
      · intro W hW
        go_wp2
        refine ⟨rfl, rfl, Grows.refl _, ?_⟩
        unfold Oper.valAt
        go_simp
        rfl
      intro k1 a1 hk1 ha1
      simp only [Nat.reduceAdd] at hk1
      simp only [Act.put, List.setIfInBounds_toArray, List.set_cons_succ, List.set_cons_zero] at ha1
      subst hk1 ha1
      apply Mono.is0
      · kernel_rfl
      · intro W hW
        have q1 := HC7.out W hW
        go_wp2
        refine ⟨rfl, rfl, Grows.refl _, ?_⟩
        unfold Oper.valAt
        go_simp
        rfl
      intro k1 a1 hk1 ha1
      simp only [Nat.reduceAdd] at hk1
      simp only [Act.put, List.setIfInBounds_toArray, List.set_cons_succ, List.set_cons_zero] at ha1
      subst hk1 ha1
      apply Mono.is0
      · kernel_rfl
      · intro W hW
        go_wp2
        refine ⟨rfl, rfl, Grows.refl _, ?_⟩
        unfold Oper.valAt
        go_simp
        rfl
      intro k1 a1 hk1 ha1
      simp only [Nat.reduceAdd] at hk1
      simp only [Act.put, List.setIfInBounds_toArray, List.set_cons_succ, List.set_cons_zero] at ha1
      subst hk1 ha1
      apply Mono.is0
      · kernel_rfl
      · intro W hW
        have q1 := HC4.out W hW
        go_wp2
        refine ⟨rfl, rfl, Grows.refl _, ?_⟩
        unfold Oper.valAt
        go_simp
        rfl
      intro k1 a1 hk1 ha1
      simp only [Nat.reduceAdd] at hk1
      simp only [Act.put, List.setIfInBounds_toArray, List.set_cons_succ, List.set_cons_zero] at ha1
      subst hk1 ha1
      apply Mono.is0
      · kernel_rfl
      · intro W hW 
        go_wp2_with fail
        refine (turned_any e 6 11 25 _ (by decide) (by decide) (by decide)).mono ?_
        rintro e1 w1 ⟨rfl, rfl⟩
        rw [Ht6.out]
        go_wp2
        exact ⟨rfl, rfl, Grows.refl _, rfl⟩
      intro k1 a1 hk1 ha1
      simp only [Nat.reduceAdd] at hk1
      simp only [Act.put, List.setIfInBounds_toArray, List.set_cons_succ, List.set_cons_zero] at ha1
      subst hk1 ha1
      apply Mono.is0
      · kernel_rfl
      · intro W hW
        have q1 := hs1.out
        go_wp2
        refine ⟨rfl, rfl, Grows.refl _, ?_⟩
        unfold Oper.valAt
        go_simp
        rfl
      intro k1 a1 hk1 ha1
      simp only [Nat.reduceAdd] at hk1
      simp only [Act.put, List.setIfInBounds_toArray, List.set_cons_succ, List.set_cons_zero] at ha1
      subst hk1 ha1
      apply Mono.is0
      · kernel_rfl
      · intro W hW
        go_wp2
        refine ⟨rfl, rfl, Grows.refl _, ?_⟩
        unfold Oper.valAt
        go_simp
        rfl
      intro k1 a1 hk1 ha1
      simp only [Nat.reduceAdd] at hk1
      simp only [Act.put, List.setIfInBounds_toArray, List.set_cons_succ, List.set_cons_zero] at ha1
      subst hk1 ha1
      apply Mono.is0
      · kernel_rfl
      · intro W hW
        have q1 := hs2.out
        go_wp2
        refine ⟨rfl, rfl, Grows.refl _, ?_⟩
        unfold Oper.valAt
        go_simp
        rfl
      intro k1 a1 hk1 ha1
      simp only [Nat.reduceAdd] at hk1
      simp only [Act.put, List.setIfInBounds_toArray, List.set_cons_succ, List.set_cons_zero] at ha1
      subst hk1 ha1
      apply Mono.is0
      · kernel_rfl
      · intro W hW
        go_wp2
        refine ⟨rfl, rfl, Grows.refl _, ?_⟩
        unfold Oper.valAt
        go_simp
        rfl
      intro k1 a1 hk1 ha1
      simp only [Nat.reduceAdd] at hk1
      simp only [Act.put, List.setIfInBounds_toArray, List.set_cons_succ, List.set_cons_zero] at ha1
      subst hk1 ha1
      apply Mono.is0
      · kernel_rfl
      · intro W hW
        have q0 := Hki.out
        go_wp2
        refine ⟨rfl, rfl, Grows.refl _, ?_⟩
        unfold Oper.valAt
        go_simp
        rfl
      intro k1 a1 hk1 ha1
      simp only [Nat.reduceAdd] at hk1
      simp only [Act.put, List.setIfInBounds_toArray, List.set_cons_succ, List.set_cons_zero] at ha1
      subst hk1 ha1
      apply Mono.is0
      · kernel_rfl
      · intro W hW
        have q1 := HCK.out W hW
        go_wp2
        refine ⟨rfl, rfl, Grows.refl _, ?_⟩
        unfold Oper.valAt
        go_simp
        rfl
      intro k1 a1 hk1 ha1
      simp only [Nat.reduceAdd] at hk1
      simp only [Act.put, List.setIfInBounds_toArray, List.set_cons_succ, List.set_cons_zero] at ha1
      subst hk1 ha1
      apply Mono.is0
      · kernel_rfl
      · intro W hW
        have q1 := hs3.out
        go_wp2
        refine ⟨rfl, rfl, Grows.refl _, ?_⟩
        unfold Oper.valAt
        go_simp
        rfl
      intro k1 a1 hk1 ha1
      simp only [Nat.reduceAdd] at hk1
      simp only [Act.put, List.setIfInBounds_toArray, List.set_cons_succ, List.set_cons_zero] at ha1
      subst hk1 ha1
      apply Mono.is0
      · kernel_rfl
      · intro W hW
        go_wp2
        refine ⟨rfl, rfl, Grows.refl _, ?_⟩
        unfold Oper.valAt
        go_simp
        rfl
      intro k1 a1 hk1 ha1
      simp only [Nat.reduceAdd] at hk1
      simp only [Act.put, List.setIfInBounds_toArray, List.set_cons_succ, List.set_cons_zero] at ha1
      subst hk1 ha1
      apply Mono.is0
      · kernel_rfl
      · intro W hW
        have q1 := hone.out
        go_wp2
        refine ⟨rfl, rfl, Grows.refl _, ?_⟩
        unfold Oper.valAt
        go_simp
        rfl
      intro k1 a1 hk1 ha1
      simp only [Nat.reduceAdd] at hk1
      simp only [Act.put, List.setIfInBounds_toArray, List.set_cons_succ, List.set_cons_zero] at ha1
      subst hk1 ha1
      apply Mono.is0
      · kernel_rfl
      · intro W hW
        go_wp2
        refine ⟨rfl, rfl, Grows.refl _, ?_⟩
        unfold Oper.valAt
        go_simp
        rfl
      intro k1 a1 hk1 ha1
      simp only [Nat.reduceAdd] at hk1
      simp only [Act.put, List.setIfInBounds_toArray, List.set_cons_succ, List.set_cons_zero] at ha1
      subst hk1 ha1
      refine Mono.done ?_
      intro wa hga
      simp only [allF, List.drop_succ_cons, List.drop_nil]
      have HVa : Hid (Blk wa gV 51 ((V8.mk a b c d e f g hh).list.map b32).toArray) := HV.out.grows hga
      have HB0a := lib_hid (HB0.out.grows hga)
      have HBRa := lib_hid (HBR.out.grows hga)
      have HKa := lib_hid (HK.out.grows hga)
      have Hgra : Hid (Grows w wa) := Hgr.out.trans hga
      have d0 := HC0.out wa hga
      have d1 := HC1.out wa hga
      have d2 := HC2.out wa hga
      have d3 := HC3.out wa hga
      have d4 := HC4.out wa hga
      have d5 := HC5.out wa hga
      have d6 := HC6.out wa hga
      have d7 := HC7.out wa hga
      clear HC0 HC1 HC2 HC3 HC4 HC5 HC6 HC7 HCK hga HV HB0 HBR HK Hgr
      go_wp2_with fail
      refine (turned_any a 2 13 22 _ (by decide) (by decide) (by decide)).mono ?_
      rintro e1 w1 ⟨rfl, rfl⟩
      rw [Ht2.out]
      have q1 := htwo.out
      go_upto_region 9 with fail
      clear q1
      have q1 := hz1.out
      have q2 := hz2.out
      go_upto_region 10 with (refine wpList_store_blk rfl _ _ _ rfl gV ((V8.mk z1 a b c z2 e f g).list.map b32).toArray rfl rfl 51 _ HVa.out (by rw [Tryd.size8]; rfl) rfl (b32_one _) w.heap.size w Hgra.out Hne.out.2.2.2.2.2.2.1 ?_; intro w5 H5 hb5 hg5)
      clear q1 q2 d0 d1 d2 d3 d4 d5 d6 d7
      have HV5 : Hid (Blk w5 gV 51 ((roundsF ks ws h (i + 1)).list.map b32).toArray) := by unfold Hid; rw [Hnext.out]; exact H5
      have HB05 : Hid (Blk w5 g0 51 (h.list.map b32).toArray) := HB0a.out.grown hg5 (by simp [Hne.out.1])
      have HBR5 : Hid (Blk w5 gR 51 zc) := HBRa.out.grown hg5 (by simp [Hne.out.2.1])
      have HK5 : Hid (Blk w5 0 tK (ks.map b32).toArray) := HKa.out.grown hg5 (by simp [Hne.out.2.2.2.2.2.2.2.2.1])
      have Hg5 : Hid (Grows w w5) := hb5
      clear HVa HB0a HBRa HKa Hgra H5 hg5 hb5
      go_wp2
      go_roundw
      case rel => exact ⟨i + 1, by have := Hlt.out; omega, by go_num, Hg5, HB05, HBR5, HK5, HV5⟩
      case measure => have := Hlt.out; simp [intOf]; omega
    · have hki : ¬ (i : Int) < 64 := by omega
      have hi64 : i = 64 := by omega
      subst hi64
      obtain ⟨V, HVn⟩ : ∃ V, Hid (roundsF ks ws h 64 = V) := ⟨_, lib_hid rfl⟩
      rw [HVn.out] at HV
      have HT : Hid (blockF ks h bs = addV h V) := by unfold Hid blockF; rw [Hws.out, HVn.out]
      have HS0 : Hid (Blk wr g0 51 ((sumsF h.list V.list 0).map b32).toArray) := by rw [sumsF_zero]; exact HB0
      clear HB0 HVn Hws Hwl HK hlt
      go_upto_region 11 with fail
      clear hki
      go_wp2
      go_loopw [89] (fun v wr => ∃ j : Nat, j ≤ 8 ∧ v = .int .i64 (j : Int) ∧ Hid (Grows w wr) ∧ Hid (Blk wr g0 51 ((sumsF h.list V.list j).map b32).toArray) ∧ Hid (Blk wr gR 51 zc) ∧ Hid (Blk wr gV 51 (V.list.map b32).toArray)) (fun v _ => 8 - (intOf v).toNat)
      case atStart => exact ⟨0, by omega, rfl, Hgr, HS0, HBR, HV⟩
      case round =>
        clear Hgr HS0 HBR HV
        obtain ⟨j, hj, rfl, Hgr, HS, HBR, HV⟩ := hrel
        by_cases hlt : j < 8
        · have hkj : (j : Int) < 8 := by omega
          have Hkj := lib_hid hkj
          have Hl : Hid ((sumsF h.list V.list j).length = 8) := by unfold Hid; rw [sumsF_len]; rfl
          obtain ⟨x, Hx⟩ : ∃ x, Hid ((sumsF h.list V.list j).getD j 0 = x) := ⟨_, lib_hid rfl⟩
          obtain ⟨y, Hy⟩ : ∃ y, Hid (V.list.getD j 0 = y) := ⟨_, lib_hid rfl⟩
          have HCX : Hid (∀ W, Grows wr W → W.cell? ⟨g0, j, none⟩ = some (.int .u32 (x.toNat : Int))) := fun W hW => by rw [← Hx.out]; exact cell32 (HS.out.grows hW) j (by rw [Hl.out]; exact hlt)
          have HCY : Hid (∀ W, Grows wr W → W.cell? ⟨gV, j, none⟩ = some (.int .u32 (y.toNat : Int))) := fun W hW => by rw [← Hy.out]; exact cell32 (HV.out.grows hW) j (by simp [V8.list]; exact hlt)
          obtain ⟨z, Hz, hz⟩ : ∃ v : UInt32, Hid (x + y = v) ∧ Hid (IntKind.u32.wrap ((x.toNat : Int) + (y.toNat : Int)) = (v.toNat : Int)) := ⟨_, lib_hid rfl, lib_hid (u32_wrap_add _ _)⟩
          have Hset : Hid ((sumsF h.list V.list j).set j z = sumsF h.list V.list (j + 1)) := by unfold Hid; rw [sumsF, Hx.out, Hy.out, Hz.out]
          go_upto_region 14 with fail
          clear hkj
          apply wp_region_mono 8 ((.is _, []) :: (.is _, []) :: (.is _, []) :: (.is _, []) :: (.is _, []) :: (.is _, []) :: (.is _, []) :: (.is _, []) :: []) (by kernel_rfl) (by kernel_rfl)
          apply Mono.is0
          · kernel_rfl
          · intro W hW
            go_wp2
            refine ⟨rfl, rfl, Grows.refl _, ?_⟩
            unfold Oper.valAt
            go_simp
            rfl
          intro k1 a1 hk1 ha1
          simp only [Nat.reduceAdd] at hk1
          simp only [Act.put, List.setIfInBounds_toArray, List.set_cons_succ, List.set_cons_zero] at ha1
          subst hk1 ha1
          apply Mono.is0
          · kernel_rfl
          · intro W hW
            have q0 := Hkj.out
            go_wp2
            refine ⟨rfl, rfl, Grows.refl _, ?_⟩
            unfold Oper.valAt
            go_simp
            rfl
          intro k1 a1 hk1 ha1
          simp only [Nat.reduceAdd] at hk1
          simp only [Act.put, List.setIfInBounds_toArray, List.set_cons_succ, List.set_cons_zero] at ha1
          subst hk1 ha1
          apply Mono.is0
          · kernel_rfl
          · intro W hW
            have q1 := HCX.out W hW
            go_wp2
            refine ⟨rfl, rfl, Grows.refl _, ?_⟩
            unfold Oper.valAt
            go_simp
            rfl
          intro k1 a1 hk1 ha1
          simp only [Nat.reduceAdd] at hk1
          simp only [Act.put, List.setIfInBounds_toArray, List.set_cons_succ, List.set_cons_zero] at ha1
          subst hk1 ha1
          apply Mono.is0
          · kernel_rfl
          · intro W hW
            go_wp2
            refine ⟨rfl, rfl, Grows.refl _, ?_⟩
            unfold Oper.valAt
            go_simp
            rfl
          intro k1 a1 hk1 ha1
          simp only [Nat.reduceAdd] at hk1
          simp only [Act.put, List.setIfInBounds_toArray, List.set_cons_succ, List.set_cons_zero] at ha1
          subst hk1 ha1
          apply Mono.is0
          · kernel_rfl
          · intro W hW
            have q0 := Hkj.out
            go_wp2
            refine ⟨rfl, rfl, Grows.refl _, ?_⟩
            unfold Oper.valAt
            go_simp
            rfl
          intro k1 a1 hk1 ha1
          simp only [Nat.reduceAdd] at hk1
          simp only [Act.put, List.setIfInBounds_toArray, List.set_cons_succ, List.set_cons_zero] at ha1
          subst hk1 ha1
          apply Mono.is0
          · kernel_rfl
          · intro W hW
            have q1 := HCY.out W hW
            go_wp2
            refine ⟨rfl, rfl, Grows.refl _, ?_⟩
            unfold Oper.valAt
            go_simp
            rfl
          intro k1 a1 hk1 ha1
          simp only [Nat.reduceAdd] at hk1
          simp only [Act.put, List.setIfInBounds_toArray, List.set_cons_succ, List.set_cons_zero] at ha1
          subst hk1 ha1
          apply Mono.is0
          · kernel_rfl
          · intro W hW
            have q1 := hz.out
            go_wp2
            refine ⟨rfl, rfl, Grows.refl _, ?_⟩
            unfold Oper.valAt
            go_simp
            rfl
          intro k1 a1 hk1 ha1
          simp only [Nat.reduceAdd] at hk1
          simp only [Act.put, List.setIfInBounds_toArray, List.set_cons_succ, List.set_cons_zero] at ha1
          subst hk1 ha1
          apply Mono.is0
          · kernel_rfl
          · intro W hW
            have q0 := Hkj.out
            go_wp2
            refine ⟨rfl, rfl, Grows.refl _, ?_⟩
            unfold Oper.valAt
            go_simp
            rfl
          intro k1 a1 hk1 ha1
          simp only [Nat.reduceAdd] at hk1
          simp only [Act.put, List.setIfInBounds_toArray, List.set_cons_succ, List.set_cons_zero] at ha1
          subst hk1 ha1
          refine Mono.done ?_
          intro wm hgm
          simp only [allF, List.drop_succ_cons, List.drop_zero]
          have HM := HS.out.grows hgm
          have HS3 := lib_hid (blk_set32 HM j z)
          rw [Hset.out] at HS3
          have HBRs := lib_hid ((HBR.out.grows hgm).far (p := ⟨g0, j, none⟩) Hne.out.2.2.2.1 (b32 z))
          have HVs := lib_hid ((HV.out.grows hgm).far (p := ⟨g0, j, none⟩) Hne.out.2.2.2.2.2.2.2.2.2.2.1 (b32 z))
          have Hgs : Hid (Grows w (wm.setCell ⟨g0, j, none⟩ (b32 z))) := (Hgr.out.trans hgm).setCell (p := ⟨g0, j, none⟩) Hne.out.2.2.2.2.1 _
          have cz := cell32 HM j (by rw [Hl.out]; exact hlt)
          have fz := HM.frozen j
          have hzm : g0 < wm.heap.size := HM.lt
          clear HM hgm HS HBR HV Hgr HCX HCY
          go_wp2
          go_roundw
          case rel => exact ⟨j + 1, by omega, by go_num, Hgs, HS3, HBRs, HVs⟩
          case measure => simp [intOf]; omega
        · have hkj : ¬ (j : Int) < 8 := by omega
          have hj8 : j = 8 := by omega
          subst hj8
          rw [sumsF_all] at HS
          obtain ⟨vs, Hvs, hvl, hvo⟩ : ∃ vs : Array Value, Hid ((addV h V).vals = vs) ∧ vs.size = 8 ∧ vs.all (·.oneCell') = true := ⟨_, lib_hid rfl, rfl, b32_one _⟩
          have HSv : Hid (Blk wr g0 51 vs) := by rw [← Hvs.out]; exact HS
          clear HS HV hlt
          go_upto_region 16 with fail
          clear hkj
          go_upto_region 17 with (first
            | (refine wpList_load_blk rfl _ _ rfl g0 rfl _ vs _ HSv.out rfl rfl (by rw [Tryd.size8, hvl]) ?_)
            | (refine wpList_store_blk rfl _ _ _ rfl gR vs rfl rfl 51 _ HBR.out (by rw [Tryd.size8, hvl]) (by rw [hvl, Hzl.out]) hvo w.heap.size w Hgr.out Hne.out.2.2.2.2.2.1 ?_; intro w6 H6 hb6 hg6))
          go_wp2
          refine bodyPost_ret (results_cell_row rfl _ _ gR _ _ _ _ rfl H6 Tryd.underlying51 rfl (by rw [Tryd.size8, hvl])) rfl ?_
          rw [HT.out, Hvs.out]
          exact ⟨rfl, hb6⟩

end Go.Proofs.YtnlffaglmcddkaaDoor
