/-
  The walk of HmacKept.
-/
import Derived.Test.YtngmclajfbknjaaDoorLaw7a
import Derived.Deep.Cut
import Derived.BigRegion
import Derived.RegionTactic
import Derived.Outline
namespace Go.Proofs.YtngmclajfbknjaaDoor
open Go Go.RowKit
set_option linter.unusedSimpArgs false
set_option linter.unusedVariables false


/-- What the loops leave as it is. -/
def KeptI (ks : List UInt32) (K bs : List UInt8) (base gB : Nat) (g5 : Nat) (rs : Array Value) (g gs : Nat) (rb : Option Nat) (w wr : World) : Prop :=
  Grows w wr ∧ Blk wr g5 23 rs ∧ HmOf ks wr base g gs rb K bs ∧ g5 < gB
theorem KeptI.set {ks : List UInt32} {K bs : List UInt8} {base gB g5 : Nat} {rs : Array Value} {g gs : Nat} {rb : Option Nat} {w wr : World} (h : KeptI ks K bs base gB g5 rs g gs rb w wr) {p : Addr} (h1 : w.heap.size ≤ p.block) (h2 : gB ≤ p.block) (h3 : p.block < base) (u : Value) :
    KeptI ks K bs base gB g5 rs g gs rb w (wr.setCell p u) := by
  obtain ⟨a, b, c, d⟩ := h
  have hl := c.lt
  refine ⟨a.setCell h1 u, b.far (by omega) u, c.keeps (keeps_set wr p u) (fun e => ?_) (fun e => ?_) (fun i hi e => ?_), d⟩
  · have := c.2.1; omega
  · have := hl.2.2.1; omega
  · have := (hl.2.2.2 i hi).1; omega
attribute [local irreducible] startV schedF moreW firstW blockF roundsF sumsF outF outW padS sumS shaK ShaOf HC keyB hmF xorK HmOf
set_option maxRecDepth 100000 in
set_option maxHeartbeats 4000000 in
theorem walk_HmacKept {tK : TypeId} (A : Option Addr) (n c : Nat) (key : List UInt8) (B : Option Addr) (m d : Nat) (bs : List UInt8) (y : UInt8) (w : World) (HK : Hid (Blk w 0 tK (shaK.map b32).toArray)) (hs : SB w A n c key) (hb : SB w B m d bs) :
    Calls Tryd.prog 6 #[.slice A n c, .slice B m d, .int .u8 (y.toNat : Int)] w fun e w' => e = .returned (.bool true) ∧ Grows w w' := by
  by_cases hn : 100 < n
  · have hni : (n : Int) > 100 := by omega
    clear hs hb HK hn
    go_enter Tryd.func6, Tryd.ntmps6
    go_wp2
    go_ret
    exact ⟨rfl, Grows.refl _⟩
  have hni : ¬ (n : Int) > 100 := by omega
  by_cases hm : 100 < m
  · have hmi : (m : Int) > 100 := by omega
    clear hs hb HK hm hn
    go_enter Tryd.func6, Tryd.ntmps6
    go_wp2
    go_ret
    exact ⟨rfl, Grows.refl _⟩
  have hmi : ¬ (m : Int) > 100 := by omega
  have hlen := hs.len
  have hlenb := hb.len
  obtain ⟨ks, Hks, hkl⟩ : ∃ ks, Hid (ks = shaK) ∧ Hid (ks.length = 64) := ⟨_, lib_hid rfl, lib_hid shaK_len⟩
  have HCa0 : Hid (∀ W, Grows w W → Calls Tryd.prog 9 #[] W fun e w' => e = .returned (.bool true) ∧ Grows W w') := fun W hW => awake7_any W (HK.out.grows hW)
  rw [← Hks.out] at HK
  obtain ⟨os, Hos, osl⟩ : ∃ x : List UInt8, Hid (hmF ks (keyB ks key) bs = x) ∧ Hid (x.length = 32) := ⟨_, lib_hid rfl, lib_hid (hmF_len _ _ _)⟩
  obtain ⟨rs, Hrs, hrl, hra⟩ : ∃ rs : Array Value, Hid ((os.map b8).toArray = rs) ∧ Hid (rs.size = 32) ∧ Hid (rs.all (·.oneCell') = true) := ⟨_, lib_hid rfl, by unfold Hid; simp [osl.out], lib_hid (cells_all _)⟩
  have He : Hid (∀ W, (Op.equalIn 10000 23 (.agg rs) (.agg rs)).run Tryd.prog W = .ok true W) := fun W => by rw [← Hrs.out]; exact eq32 os osl.out W
  have HCs : Hid (Calls Tryd.prog 7 #[.slice A n c, .slice B m d] w fun e w' => e = .returned (.agg rs) ∧ Grows w w') := by
    rw [← Hrs.out, ← Hos.out]; exact hmac_any ks key bs A B n c m d w hkl.out HK hs hb (by omega) (by omega)
  have HS := lib_hid hs
  have HSb := lib_hid hb
  have Hn : Hid (n ≤ 100 ∧ m ≤ 100 ∧ bs.length = m) := ⟨by omega, by omega, hlenb⟩
  have Hw0 : Hid (0 < w.heap.size) := Nat.lt_of_le_of_lt (Nat.zero_le _) HK.out.lt
  clear hs hb hn hm hlen hlenb
  go_enter Tryd.func6, Tryd.ntmps6
  go_wp2_with fail
  refine HCs.out.mono ?_
  rintro e1 w1 ⟨rfl, hg1⟩
  have Hg1 := lib_hid hg1
  have HN1 : Hid (Blk (w1.alloc (.cells #[.int .u8 0, .int .u8 0, .int .u8 0, .int .u8 0, .int .u8 0, .int .u8 0, .int .u8 0, .int .u8 0, .int .u8 0, .int .u8 0, .int .u8 0, .int .u8 0, .int .u8 0, .int .u8 0, .int .u8 0, .int .u8 0, .int .u8 0, .int .u8 0, .int .u8 0, .int .u8 0, .int .u8 0, .int .u8 0, .int .u8 0, .int .u8 0, .int .u8 0, .int .u8 0, .int .u8 0, .int .u8 0, .int .u8 0, .int .u8 0, .int .u8 0, .int .u8 0] 23)) w1.heap.size 23 #[.int .u8 0, .int .u8 0, .int .u8 0, .int .u8 0, .int .u8 0, .int .u8 0, .int .u8 0, .int .u8 0, .int .u8 0, .int .u8 0, .int .u8 0, .int .u8 0, .int .u8 0, .int .u8 0, .int .u8 0, .int .u8 0, .int .u8 0, .int .u8 0, .int .u8 0, .int .u8 0, .int .u8 0, .int .u8 0, .int .u8 0, .int .u8 0, .int .u8 0, .int .u8 0, .int .u8 0, .int .u8 0, .int .u8 0, .int .u8 0, .int .u8 0, .int .u8 0]) := Blk.new _ _ _
  clear hg1 HCs hni hmi
  go_upto_region 4 with (refine wpList_store_blk rfl _ _ _ rfl w1.heap.size rs rfl rfl 23 _ HN1.out (by rw [Tryd.size32B, hrl.out]) (by rw [hrl.out]; rfl) hra.out w1.heap.size w1 ((Grows.refl w1).alloc _) (Nat.le_refl _) ?_; intro w2 H2 hb2 hg2)
  obtain ⟨g5, Hg5⟩ : ∃ x, Hid (w1.heap.size = x) := ⟨_, lib_hid rfl⟩
  have HR : Hid (Blk w2 g5 23 rs) := by rw [← Hg5.out]; exact H2
  rw [Hg5.out]
  have Hg2 : Hid (Grows w w2) := Hg1.out.trans hb2
  obtain ⟨gB, HgB, Hgl⟩ : ∃ x, Hid (w2.heap.size = x) ∧ Hid (g5 < x ∧ w.heap.size ≤ x) := ⟨_, lib_hid rfl, HR.out.lt, Hg2.out.le⟩
  have HE : Hid ((w2.alloc (.cells #[] 5)).ownsRow gB 5 1 (.slice (some ⟨w2.heap.size, 0, none⟩) 0 0) 0 []) := by rw [← HgB.out]; exact World.ownsRow_lit (base := w2.heap.size) (e := 5) (size := 1) w2 #[] 0 (Nat.le_refl _) (by unfold maxLen; omega) rfl
  have hrE : Hid (SB (w2.alloc (.cells #[] 5)) A n c key) := (HS.out.grows Hg2.out).grows ((Grows.refl w2).alloc _)
  have hE3 : Hid (∀ w3 : World, (w3.alloc (.cells #[] 5)).ownsRow w3.heap.size 5 1 (.slice (some ⟨w3.heap.size, 0, none⟩) 0 0) 0 []) := fun w3 => World.ownsRow_lit (base := w3.heap.size) (e := 5) (size := 1) w3 #[] 0 (Nat.le_refl _) (by unfold maxLen; omega) rfl
  have hgBl : gB ≤ (w2.alloc (.cells #[] 5)).heap.size := by rw [← HgB.out]; simp
  have HSbg : Hid (∀ w3 : World, Below gB w2 w3 → SB (w3.alloc (.cells #[] 5)) B m d bs) := fun w3 h => ((HSb.out.grows (Hg2.out.trans (show Grows w2 w3 by rw [← HgB.out] at h; exact h))).grows ((Grows.refl w3).alloc _))
  clear H2 hb2 hg2 HN1 Hg1 Hg5
  go_upto_region 5 with (first
    | (at_builtin; refine wpList_append rfl _ _ 22 rfl gB 5 (.int .u8 0) 1 Tryd.underlying22 Tryd.infoByte rfl _ 0 [] rfl HE.out A n c (key.map b8) rfl hrE.out (b8_one key) (by have := Hn.out; omega) (by omega) hgBl ?_; intro A3 c3 w3 ho3 hb3 hg3; have hb23 : Below gB w2 w3 := Below.trans ((show Below gB w2 w2 from Below.refl _ _).alloc (by rw [HgB.out]; exact Nat.le_refl _) _) hb3)
    | (at_builtin; refine wpList_append rfl _ _ 22 rfl w3.heap.size 5 (.int .u8 0) 1 Tryd.underlying22 Tryd.infoByte rfl _ 0 [] rfl (hE3.out w3) B m d (bs.map b8) rfl (HSbg.out w3 hb23) (b8_one bs) (by have := Hn.out; omega) (by omega) (by simp) ?_; intro A4 c4 w4 ho4 hb4 hg4))
  have Hg23 : Hid (Grows w2 w3) := by rw [← HgB.out] at hb23; exact hb23
  have Hg34 : Hid (Grows w3 w4) := Below.trans ((Grows.refl w3).alloc _) hb4
  have HO3 : Hid (OwnAt w4 gB A3 n c3 (key.map b8)) := by rw [Nat.zero_add, List.nil_append] at ho3; exact (OwnAt.of_own ho3).grows Hg34.out
  have HO4 : Hid (OwnAt w4 w3.heap.size A4 m c4 (bs.map b8)) := by rw [Nat.zero_add, List.nil_append] at ho4; exact OwnAt.of_own ho4
  have HA3 : Hid (∀ p, A3 = some p → gB ≤ p.block ∧ p.block < w3.heap.size) := fun p hp => by
    rw [Nat.zero_add, List.nil_append] at ho3
    exact ⟨(OwnAt.of_own ho3).base_le p hp, (OwnAt.of_own ho3).lt p hp⟩
  have Hg24 : Hid (Grows w2 w4) := Hg23.out.trans Hg34.out
  have HA4 : Hid (∀ p, A4 = some p → w3.heap.size ≤ p.block ∧ p.block < w4.heap.size) := fun p hp => ⟨HO4.out.base_le p hp, HO4.out.lt p hp⟩
  have HgB3 : Hid (gB ≤ w3.heap.size) := by rw [← HgB.out]; exact Hg23.out.le
  have HR4 := lib_hid (HR.out.grows Hg24.out)
  have Hg4 : Hid (Grows w w4) := Hg2.out.trans Hg24.out
  clear ho3 hb3 hg3 ho4 hb4 hg4 hb23 HE hrE hE3 HSbg hgBl Hg24 Hg2 HR HSb
  go_wp2_with fail
  refine (hnew_any ks key A3 n c3 w4 hkl.out (HK.out.grows Hg4.out) HO3.out.row (by have := Hn.out; omega)).mono ?_
  rintro e5 w5 ⟨g, gs, rb, rfl, hg5, hgg, hP5⟩
  have HP5 := lib_hid hP5
  have Hg45 := lib_hid hg5
  have HO35 := lib_hid (HO3.out.grows hg5)
  have HO45 := lib_hid (HO4.out.grows hg5)
  have HR5 := lib_hid (HR4.out.grows hg5)
  have HA4g : Hid (0 < m → ∀ p, A4 = some p → p.block ≠ gs) := fun _ p hp => by have := (HA4.out p hp).2; have := HP5.out.lt; omega
  have Hwr := lib_hid (hwrite_any ks g gs w4.heap.size rb (keyB ks key) [] bs A4 m c4 w5 hkl.out (HK.out.grows (Hg4.out.trans hg5)) HP5.out HO45.out.row HA4g.out hg5.le (Nat.lt_of_lt_of_le Hw0.out Hg4.out.le) (by simp) (by have := Hn.out; omega))
  clear hg5 hgg hP5 HO3 HO4 HR4 HA4g
  go_wp2_with fail
  refine Hwr.out.mono ?_
  rintro e6 w6 ⟨rfl, rb2, hP6, hK6, hl6⟩
  rw [List.nil_append] at hP6
  have hlt5 := HP5.out.lt
  have hnk : ∀ p : Addr, p.block < w4.heap.size → ¬ (p.block = gs ∨ rb = some p.block) := fun p hp h => by
    rcases h with h | h
    · omega
    · have := (hlt5.2.2.2 _ h).1; omega
  have HO36 := lib_hid (HO35.out.keeps hK6 (fun p hp => hnk p (by have := (HA3.out p hp).2; have := Hg34.out.le; omega)))
  have HO46 := lib_hid (HO45.out.keeps hK6 (fun p hp => hnk p (HA4.out p hp).2))
  have hg46 : Grows w4 w6 := Keeps.grows' hK6 Hg45.out (fun i hi => by
    rcases hi with h | h
    · rw [h]; exact hlt5.2.2.1
    · exact (hlt5.2.2.2 i h).1)
  have HR6 : Hid (Blk w6 g5 23 rs) := HR5.out.keeps hK6 (hnk ⟨g5, 0, none⟩ (by have := Hgl.out; have := HgB3.out; have := Hg34.out.le; show g5 < _; omega))
  have HI6 : Hid (KeptI ks (keyB ks key) bs w4.heap.size gB g5 rs g gs rb2 w w6) := ⟨Hg4.out.trans hg46, HR6.out, hP6, Hgl.out.1⟩
  have Hle34 := lib_hid Hg34.out.le
  clear hP6 hK6 hl6 hlt5 hnk hg46 HO35 HO45 HR5 HP5 Hwr HR6 Hg45 Hg34 Hg23 Hg4
  obtain ⟨z3, Hz3⟩ : ∃ x, Hid (w3.heap.size = x) := ⟨_, lib_hid rfl⟩
  obtain ⟨z4, Hz4⟩ : ∃ x, Hid (w4.heap.size = x) := ⟨_, lib_hid rfl⟩
  rw [Hz3.out] at HA3 HA4 HO46 HgB3 Hle34
  rw [Hz4.out] at HA4 HI6 Hle34
  go_wp2
  go_loopw [11] (fun v wr => ∃ (i : Nat) (xs : List UInt8), i ≤ n ∧ v = .int .i64 (i : Int) ∧ Hid (OwnAt wr gB A3 n c3 (xs.map b8)) ∧ Hid (OwnAt wr z3 A4 m c4 (bs.map b8)) ∧ Hid (KeptI ks (keyB ks key) bs z4 gB g5 rs g gs rb2 w wr)) (fun v _ => n - (intOf v).toNat)
  case atStart => exact ⟨0, key, by omega, rfl, HO36, HO46, HI6⟩
  case round =>
    clear HO36 HO46 HI6
    obtain ⟨i, xs, hin, rfl, HO, HO4, HI⟩ := hrel
    by_cases hlt : i < n
    · have hki : (i : Int) < n := by omega
      obtain ⟨gx, off, eA, hbg, hgl, hcell, hfrz, hset⟩ := HO.out.stored2 (k := i) hlt
      have hxl : xs.length = n := by have := HO.out.1; simpa using this
      obtain ⟨x, hx⟩ : ∃ x, xs[i]? = some x := ⟨_, List.getElem?_eq_getElem (by omega)⟩
      have cx : wr.cell? ⟨gx, off + i, none⟩ = some (.int .u8 (x.toNat : Int)) := by rw [hcell, List.getElem?_map, hx]; rfl
      obtain ⟨z, Hz, hz1⟩ : ∃ z : UInt8, Hid (x ^^^ y = z) ∧ bits .xor .u8 (x.toNat : Int) (y.toNat : Int) = (z.toNat : Int) := ⟨_, lib_hid rfl, u8_xor x y⟩
      have HO2 : Hid (OwnAt (wr.setCell ⟨gx, off + i, none⟩ (.int .u8 (z.toNat : Int))) gB A3 n c3 ((xs.set i z).map b8)) := by
        have := hset (b8 z); rw [List.map_set]; exact this
      have hA := HA3.out _ eA
      have HO42 : Hid (OwnAt (wr.setCell ⟨gx, off + i, none⟩ (.int .u8 (z.toNat : Int))) z3 A4 m c4 (bs.map b8)) := HO4.out.keeps (keeps_set wr ⟨gx, off + i, none⟩ _) (fun p hp e => by have := (HA4.out p hp).1; simp only at hA e; omega)
      have HI2 := lib_hid (HI.out.set (p := ⟨gx, off + i, none⟩) (by have := Hgl.out; simp only at hA ⊢; omega) (by simp only at hA ⊢; exact hA.1) (by simp only at hA ⊢; have := Hle34.out; omega) (.int .u8 (z.toNat : Int)))
      clear hset hcell hA HO HO4 HI hx hxl
      subst eA
      have hin2 : (n : Int) ≤ 100 := by have := Hn.out; omega
      have hcn : n ≤ c3 := HO2.out.2.1
      go_wp2
      go_roundw
      case rel => exact ⟨i + 1, xs.set i z, by omega, by go_num, HO2, HO42, HI2⟩
      case measure => simp [intOf]; omega
    · have hki : ¬ (i : Int) < n := by omega
      clear hlt
      have HOA := HO
      clear HO hin
      go_wp2
      clear hki
      go_loopw [12] (fun v wr => ∃ (i : Nat) (xs : List UInt8), i ≤ m ∧ v = .int .i64 (i : Int) ∧ Hid (OwnAt wr z3 A4 m c4 (xs.map b8)) ∧ Hid (KeptI ks (keyB ks key) bs z4 gB g5 rs g gs rb2 w wr)) (fun v _ => m - (intOf v).toNat)
      case atStart => exact ⟨0, bs, by omega, rfl, HO4, HI⟩
      case round =>
        clear HO4 HI HOA
        obtain ⟨j, xs, hin, rfl, HO, HI⟩ := hrel
        by_cases hlt : j < m
        · have hki : (j : Int) < m := by omega
          obtain ⟨gx, off, eA, hbg, hgl, hcell, hfrz, hset⟩ := HO.out.stored2 (k := j) hlt
          have hxl : xs.length = m := by have := HO.out.1; simpa using this
          obtain ⟨x, hx⟩ : ∃ x, xs[j]? = some x := ⟨_, List.getElem?_eq_getElem (by omega)⟩
          have cx : wr.cell? ⟨gx, off + j, none⟩ = some (.int .u8 (x.toNat : Int)) := by rw [hcell, List.getElem?_map, hx]; rfl
          obtain ⟨z, Hz, hz1⟩ : ∃ z : UInt8, Hid (x ^^^ y = z) ∧ bits .xor .u8 (x.toNat : Int) (y.toNat : Int) = (z.toNat : Int) := ⟨_, lib_hid rfl, u8_xor x y⟩
          have HO2 : Hid (OwnAt (wr.setCell ⟨gx, off + j, none⟩ (.int .u8 (z.toNat : Int))) z3 A4 m c4 ((xs.set j z).map b8)) := by
            have := hset (b8 z); rw [List.map_set]; exact this
          have hA := HA4.out _ eA
          have HI2 := lib_hid (HI.out.set (p := ⟨gx, off + j, none⟩) (by have := Hgl.out; have := HgB3.out; simp only at hA ⊢; omega) (by have := HgB3.out; simp only at hA ⊢; omega) (by simp only at hA ⊢; exact hA.2) (.int .u8 (z.toNat : Int)))
          clear hset hcell hA HO HI hx hxl
          subst eA
          have hin2 : (m : Int) ≤ 100 := by have := Hn.out; omega
          have hcn : m ≤ c4 := HO2.out.2.1
          go_wp2
          go_roundw
          case rel => exact ⟨j + 1, xs.set j z, by omega, by go_num, HO2, HI2⟩
          case measure => simp [intOf]; omega
        · have hki : ¬ (j : Int) < m := by omega
          clear hlt
          have Hgr : Hid (Grows w wr) := HI.out.1
          have HR : Hid (Blk wr g5 23 rs) := HI.out.2.1
          have HSm : Hid (∀ W, Grows wr W → Calls Tryd.prog 12 #[.pointer (some ⟨g, 0, none⟩)] W fun e w' => e = .returned (.agg rs) ∧ Grows W w') := fun W hW => by
            have h5 := hsum_any ks g gs z4 rb2 (keyB ks key) bs W hkl.out (HK.out.grows (Hgr.out.trans hW)) (HI.out.2.2.1.grows hW) (by have := Hn.out; omega)
            rw [Hos.out, Hrs.out] at h5
            exact h5
          have HCa : Hid (∀ W, Grows wr W → Calls Tryd.prog 9 #[] W fun e w' => e = .returned (.bool true) ∧ Grows W w') := fun W hW => HCa0.out W (Hgr.out.trans hW)
          clear HO HI HS HK Hks hkl Hrs Hos HA3 HA4 HgB HgB3 Hgl Hz3 Hz4 Hle34 hin HCa0
          go_upto_region 15 with fail
          clear hki
          apply wp_region_mono 13 ((.is _, []) :: (.is (.agg rs), []) :: (.is (.agg rs), []) :: (.is (.bool true), []) :: (.is _, []) :: (.is _, []) :: (.is (.agg rs), []) :: (.is (.agg rs), []) :: (.is (.bool true), []) :: (.is _, []) :: (.is _, []) :: (.is (.bool true), []) :: (.is _, []) :: []) (by kernel_rfl) (by kernel_rfl)
          apply Mono.is0
          · kernel_rfl
          · intro W hW
            go_wp2
            refine ⟨rfl, rfl, Grows.refl _, ?_⟩
            unfold Oper.valAt
            go_simp
            rfl
          intro k1 a1 hk1 ha1
          simp only [Nat.reduceAdd] at hk1
          simp only [Act.put, List.setIfInBounds_toArray, List.set_cons_succ, List.set_cons_zero] at ha1
          subst hk1 ha1
          apply Mono.is0
          · kernel_rfl
          · intro W hW 
            go_wp2_with fail
            refine (HSm.out W hW).mono ?_
            rintro e w1 ⟨rfl, hg1⟩
            go_wp2
            exact ⟨rfl, rfl, hg1, rfl⟩
          intro k1 a1 hk1 ha1
          simp only [Nat.reduceAdd] at hk1
          simp only [Act.put, List.setIfInBounds_toArray, List.set_cons_succ, List.set_cons_zero] at ha1
          subst hk1 ha1
          apply Mono.is0
          · kernel_rfl
          · intro W hW 
            have hB5 := HR.out.grows hW
            go_wp2_with (refine wpList_load_blk (by kernel_rfl) _ _ rfl g5 rfl 23 rs _ hB5 Tryd.underlying23 rfl (by rw [Tryd.size32B, hrl.out]) ?_)
            exact ⟨rfl, rfl, Grows.refl _, rfl⟩
          intro k1 a1 hk1 ha1
          simp only [Nat.reduceAdd] at hk1
          simp only [Act.put, List.setIfInBounds_toArray, List.set_cons_succ, List.set_cons_zero] at ha1
          subst hk1 ha1
          apply Mono.is0
          · kernel_rfl
          · intro W hW 
            have he1 := He.out W
            go_wp2
            refine ⟨rfl, rfl, Grows.refl _, ?_⟩
            unfold Oper.valAt
            go_simp
          intro k1 a1 hk1 ha1
          simp only [Nat.reduceAdd] at hk1
          simp only [Act.put, List.setIfInBounds_toArray, List.set_cons_succ, List.set_cons_zero] at ha1
          subst hk1 ha1
          iterate 2
            apply Mono.is0
            · kernel_rfl
            · intro W hW
              go_wp2
              refine ⟨rfl, rfl, Grows.refl _, ?_⟩
              unfold Oper.valAt
              go_simp
              rfl
            intro k1 a1 hk1 ha1
            simp only [Nat.reduceAdd] at hk1
            simp only [Act.put, List.setIfInBounds_toArray, List.set_cons_succ, List.set_cons_zero] at ha1
            subst hk1 ha1
          apply Mono.is0
          · kernel_rfl
          · intro W hW 
            go_wp2_with fail
            refine (HSm.out W hW).mono ?_
            rintro e w1 ⟨rfl, hg1⟩
            go_wp2
            exact ⟨rfl, rfl, hg1, rfl⟩
          intro k1 a1 hk1 ha1
          simp only [Nat.reduceAdd] at hk1
          simp only [Act.put, List.setIfInBounds_toArray, List.set_cons_succ, List.set_cons_zero] at ha1
          subst hk1 ha1
          apply Mono.is0
          · kernel_rfl
          · intro W hW 
            have hB5 := HR.out.grows hW
            go_wp2_with (refine wpList_load_blk (by kernel_rfl) _ _ rfl g5 rfl 23 rs _ hB5 Tryd.underlying23 rfl (by rw [Tryd.size32B, hrl.out]) ?_)
            exact ⟨rfl, rfl, Grows.refl _, rfl⟩
          intro k1 a1 hk1 ha1
          simp only [Nat.reduceAdd] at hk1
          simp only [Act.put, List.setIfInBounds_toArray, List.set_cons_succ, List.set_cons_zero] at ha1
          subst hk1 ha1
          apply Mono.is0
          · kernel_rfl
          · intro W hW 
            have he1 := He.out W
            go_wp2
            refine ⟨rfl, rfl, Grows.refl _, ?_⟩
            unfold Oper.valAt
            go_simp
          intro k1 a1 hk1 ha1
          simp only [Nat.reduceAdd] at hk1
          simp only [Act.put, List.setIfInBounds_toArray, List.set_cons_succ, List.set_cons_zero] at ha1
          subst hk1 ha1
          iterate 2
            apply Mono.is0
            · kernel_rfl
            · intro W hW
              go_wp2
              refine ⟨rfl, rfl, Grows.refl _, ?_⟩
              unfold Oper.valAt
              go_simp
              rfl
            intro k1 a1 hk1 ha1
            simp only [Nat.reduceAdd] at hk1
            simp only [Act.put, List.setIfInBounds_toArray, List.set_cons_succ, List.set_cons_zero] at ha1
            subst hk1 ha1
          apply Mono.is0
          · kernel_rfl
          · intro W hW 
            go_wp2_with fail
            refine (HCa.out W hW).mono ?_
            rintro e w1 ⟨rfl, hg1⟩
            go_wp2
            exact ⟨rfl, rfl, hg1, rfl⟩
          intro k1 a1 hk1 ha1
          simp only [Nat.reduceAdd] at hk1
          simp only [Act.put, List.setIfInBounds_toArray, List.set_cons_succ, List.set_cons_zero] at ha1
          subst hk1 ha1
          apply Mono.is0
          · kernel_rfl
          · intro W hW
            go_wp2
            refine ⟨rfl, rfl, Grows.refl _, ?_⟩
            unfold Oper.valAt
            go_simp
            rfl
          intro k1 a1 hk1 ha1
          simp only [Nat.reduceAdd] at hk1
          simp only [Act.put, List.setIfInBounds_toArray, List.set_cons_succ, List.set_cons_zero] at ha1
          subst hk1 ha1
          refine Mono.done ?_
          intro wm hgm
          simp only [allF, List.drop_succ_cons, List.drop_zero]
          go_wp2
          go_ret
          exact ⟨rfl, Hgr.out.trans hgm⟩

end Go.Proofs.YtngmclajfbknjaaDoor
