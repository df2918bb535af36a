/-
  New, Sum of hmac; awake of layer 7.
-/
import Derived.Test.YtngmclajfbknjaaDoorHmac2
import Derived.Deep.Cut
import Derived.BigRegion
import Derived.RegionTactic
import Derived.Outline
import Derived.Deep.RegionLaw
import Derived.Lib.SlBytesConst
namespace Go.Proofs.YtngmclajfbknjaaDoor
open Go Go.RowKit
set_option linter.unusedSimpArgs false
set_option linter.unusedVariables false


/-- The blocks of a message, one by one. -/
def runN (ks : List UInt32) : Nat → V8 → List UInt8 → V8
  | 0, h, _ => h
  | k + 1, h, xs => runN ks k (blockF ks h (xs.take 64)) (xs.drop 64)
theorem runF_N (ks : List UInt32) : ∀ (k : Nat) (h : V8) (xs : List UInt8), xs.length = 64 * k → runF ks h xs = (runN ks k h xs, [])
  | 0, h, xs, hx => by
    have : xs = [] := List.eq_nil_of_length_eq_zero (by omega)
    subst this
    rw [runF_end _ _ _ (by simp), runN]
  | k + 1, h, xs, hx => by
    rw [runF_step ks h xs (by omega), runF_N ks k _ _ (by rw [List.length_drop]; omega), runN]
theorem sumS_N (ks : List UInt32) (bs : List UInt8) (k : Nat) (hk : (bs ++ padS bs.length).length = 64 * k) : sumS ks bs = outF (runN ks k startV (bs ++ padS bs.length)) := by
  unfold sumS
  rw [runF_N ks k _ _ hk]
def foxL : List UInt8 := [84, 104, 101, 32, 113, 117, 105, 99, 107, 32, 98, 114, 111, 119, 110, 32, 102, 111, 120, 32, 106, 117, 109, 112, 115, 32, 111, 118, 101, 114, 32, 116, 104, 101, 32, 108, 97, 122, 121, 32, 100, 111, 103]
def foxK : List UInt8 := keyB shaK [107, 101, 121]
def foxI : List UInt8 := outF (runN shaK 2 startV ((xorK foxK 54 ++ foxL) ++ padS 107))
theorem foxI_len : foxI.length = 32 := outF_len _
theorem fox4 : (outF (runN shaK 2 startV ((xorK foxK 92 ++ foxI) ++ padS 96))).take 4 = [247, 188, 131, 244] := by decide +kernel
theorem foxK_len : foxK.length = 64 := keyB_len _ _
theorem hm_fox : (hmF shaK foxK foxL).take 4 = [247, 188, 131, 244] := by
  have h1 : (xorK foxK 54 ++ foxL).length = 107 := by rw [List.length_append, xorK_len, foxK_len]; rfl
  have e1 : sumS shaK (xorK foxK 54 ++ foxL) = foxI := by
    rw [sumS_N shaK _ 2 (by rw [List.length_append, padS_len, h1]; rfl), h1]
    rfl
  have h2 : (xorK foxK 92 ++ foxI).length = 96 := by rw [List.length_append, xorK_len, foxK_len, foxI_len]
  unfold hmF
  rw [e1, sumS_N shaK _ 2 (by rw [List.length_append, padS_len, h2]; rfl), h2]
  exact fox4
theorem hm_fox_at (ks : List UInt32) (hk : ks = shaK) (k : Nat) (hk4 : k < 4) : (hmF ks (keyB ks [107, 101, 121]) foxL)[k]? = ([247, 188, 131, 244] : List UInt8)[k]? := by
  subst hk
  rw [show keyB shaK [107, 101, 121] = foxK from rfl, ← hm_fox, List.getElem?_take, if_pos hk4]
attribute [local irreducible] startV schedF moreW firstW blockF roundsF sumsF outF outW padS sumS shaK ShaOf HC xorK keyB hmF HmOf foxL foxK foxI runN
theorem hc_splice (key : List UInt8) (v : Value) (hk : key.length ≤ 64) : splice (HC (List.replicate 64 0) v).toList 0 (key.map b8) = (HC (key ++ List.replicate (64 - key.length) 0) v).toList := by
  unfold HC splice
  simp only [List.take_zero, List.nil_append, List.length_map, Nat.zero_add]
  rw [List.drop_append_of_le_length (by simp; omega), List.map_replicate, List.drop_replicate, List.map_append, List.map_replicate, List.append_assoc]
theorem z65 : ((Value.int .u8 0 :: Value.int .u8 0 :: Value.int .u8 0 :: Value.int .u8 0 :: Value.int .u8 0 :: Value.int .u8 0 :: Value.int .u8 0 :: Value.int .u8 0 :: Value.int .u8 0 :: Value.int .u8 0 :: Value.int .u8 0 :: Value.int .u8 0 :: Value.int .u8 0 :: Value.int .u8 0 :: Value.int .u8 0 :: Value.int .u8 0 :: Value.int .u8 0 :: Value.int .u8 0 :: Value.int .u8 0 :: Value.int .u8 0 :: Value.int .u8 0 :: Value.int .u8 0 :: Value.int .u8 0 :: Value.int .u8 0 :: Value.int .u8 0 :: Value.int .u8 0 :: Value.int .u8 0 :: Value.int .u8 0 :: Value.int .u8 0 :: Value.int .u8 0 :: Value.int .u8 0 :: Value.int .u8 0 :: Value.int .u8 0 :: Value.int .u8 0 :: Value.int .u8 0 :: Value.int .u8 0 :: Value.int .u8 0 :: Value.int .u8 0 :: Value.int .u8 0 :: Value.int .u8 0 :: Value.int .u8 0 :: Value.int .u8 0 :: Value.int .u8 0 :: Value.int .u8 0 :: Value.int .u8 0 :: Value.int .u8 0 :: Value.int .u8 0 :: Value.int .u8 0 :: Value.int .u8 0 :: Value.int .u8 0 :: Value.int .u8 0 :: Value.int .u8 0 :: Value.int .u8 0 :: Value.int .u8 0 :: Value.int .u8 0 :: Value.int .u8 0 :: Value.int .u8 0 :: Value.int .u8 0 :: Value.int .u8 0 :: Value.int .u8 0 :: Value.int .u8 0 :: Value.int .u8 0 :: Value.int .u8 0 :: Value.int .u8 0 :: Value.pointer none :: [] : List Value).toArray) = HC (List.replicate 64 0) (.pointer none) := by unfold HC; kernel_rfl
theorem Row.ats {w : World} {A : Option Addr} {n c : Nat} {xs : List Value} (h : Row w A n c xs) (hn : 0 < n) : ∃ ad, A = some ad ∧ ∀ j v, xs[j]? = some v → w.cell? (ad.add j) = some v := by
  obtain ⟨b, off, e, _, hc⟩ := h.2.2.2.2 hn
  refine ⟨⟨b, off, none⟩, e, fun j v hj => ?_⟩
  have hl := h.1
  have : j < n := by
    rcases Nat.lt_or_ge j n with h' | h'
    · exact h'
    · rw [List.getElem?_eq_none (by omega)] at hj; cases hj
  rw [add_zero_spot, hc j this, hj]
set_option maxRecDepth 100000 in
set_option maxHeartbeats 4000000 in
theorem hnew_any {tK : TypeId} (ks : List UInt32) (key : List UInt8) (A : Option Addr) (n c : Nat) (w : World) (hkl : ks.length = 64) (HK : Hid (Blk w 0 tK (ks.map b32).toArray)) (hs : SB w A n c key) (hn : n ≤ 1000000) :
    Calls Tryd.prog 10 #[.slice A n c] w fun e w' => ∃ g gs rb, e = .returned (.pointer (some ⟨g, 0, none⟩)) ∧ Grows w w' ∧ w.heap.size ≤ g ∧ HmOf ks w' w.heap.size g gs rb (keyB ks key) [] := by
  have hlen := hs.len
  have Hlen := lib_hid hlen
  obtain ⟨g, Hg⟩ : ∃ x, Hid (w.heap.size = x) := ⟨_, lib_hid rfl⟩
  have Hgl : Hid (w.heap.size ≤ g) := by rw [← Hg.out]; exact Nat.le_refl _
  obtain ⟨zc, Hzc⟩ : ∃ x, Hid (HC (List.replicate 64 0) (.pointer none) = x) := ⟨_, lib_hid rfl⟩
  have hzv : (zeroValue 42).run Tryd.prog w = .ok (.agg zc) w := by
    rw [← Hzc.out, ← z65]
    kernel_rfl
  obtain ⟨W0, HW0, hg0⟩ : ∃ W0 : World, Hid (W0 = w.alloc (.cells zc 42)) ∧ Grows w W0 := ⟨_, lib_hid rfl, (Grows.refl w).alloc _⟩
  have HB0 : Hid (Blk W0 g 42 (HC (List.replicate 64 0) (.pointer none)).toList.toArray) := by
    unfold Hid; rw [HW0.out, ← Hg.out, ← Hzc.out]; exact Blk.new _ _ _
  have Hcl : Hid ((HC (List.replicate 64 0) (.pointer none)).toList.length = 65) := by unfold Hid HC; simp
  have Hw0 : Hid (0 < w.heap.size) := Nat.lt_of_le_of_lt (Nat.zero_le _) HK.out.lt
  have Hkl := lib_hid hkl
  by_cases h64 : 64 < n
  · have h64i : (n : Int) > 64 := by omega
    obtain ⟨ss, Hss, ssl⟩ : ∃ x : List UInt8, Hid (sumS ks key = x) ∧ Hid (x.length = 32) := ⟨_, lib_hid rfl, lib_hid (sumS_len _ _)⟩
    obtain ⟨rs, Hrs, hrl, hra⟩ : ∃ rs : Array Value, Hid ((ss.map b8).toArray = rs) ∧ Hid (rs.size = 32) ∧ Hid (rs.all (·.oneCell') = true) := ⟨_, lib_hid rfl, by unfold Hid; simp [ssl.out], lib_hid (cells_all _)⟩
    have HKB : Hid (keyB ks key = ss ++ List.replicate (64 - ss.length) 0) := by unfold Hid keyB; rw [if_pos (by omega), Hss.out, ssl.out]
    rw [HKB.out]
    have HCs : Hid (Calls Tryd.prog 14 #[.slice A n c] W0 fun e w' => e = .returned (.agg rs) ∧ Grows W0 w') := by
      rw [← Hrs.out, ← Hss.out]; exact shaSum_any ks A n c key W0 hkl (HK.out.grows hg0) (hs.grows hg0) hn
    clear hs h64 hn hlen hkl
    go_enter Tryd.func10, Tryd.ntmps10
    go_upto_region 2 with fail
    rw [← HW0.out, Hg.out]
    clear HW0 hzv
    go_wp2_with fail
    refine HCs.out.mono ?_
    rintro e1 w1 ⟨rfl, hg1⟩
    have HN1 : Hid (Blk (w1.alloc (.cells #[.int .u8 0, .int .u8 0, .int .u8 0, .int .u8 0, .int .u8 0, .int .u8 0, .int .u8 0, .int .u8 0, .int .u8 0, .int .u8 0, .int .u8 0, .int .u8 0, .int .u8 0, .int .u8 0, .int .u8 0, .int .u8 0, .int .u8 0, .int .u8 0, .int .u8 0, .int .u8 0, .int .u8 0, .int .u8 0, .int .u8 0, .int .u8 0, .int .u8 0, .int .u8 0, .int .u8 0, .int .u8 0, .int .u8 0, .int .u8 0, .int .u8 0, .int .u8 0] 23)) w1.heap.size 23 #[.int .u8 0, .int .u8 0, .int .u8 0, .int .u8 0, .int .u8 0, .int .u8 0, .int .u8 0, .int .u8 0, .int .u8 0, .int .u8 0, .int .u8 0, .int .u8 0, .int .u8 0, .int .u8 0, .int .u8 0, .int .u8 0, .int .u8 0, .int .u8 0, .int .u8 0, .int .u8 0, .int .u8 0, .int .u8 0, .int .u8 0, .int .u8 0, .int .u8 0, .int .u8 0, .int .u8 0, .int .u8 0, .int .u8 0, .int .u8 0, .int .u8 0, .int .u8 0]) := Blk.new _ _ _
    have Hg1 := lib_hid (hg0.trans hg1)
    have HB1 := lib_hid (HB0.out.grows hg1)
    clear hg1 HCs HB0 hg0 h64i
    go_upto_region 4 with (refine wpList_store_blk rfl _ _ _ rfl w1.heap.size rs rfl rfl 23 _ HN1.out (by rw [Tryd.size32B, hrl.out]) (by rw [hrl.out]; rfl) hra.out w1.heap.size w1 ((Grows.refl w1).alloc _) (Nat.le_refl _) ?_; intro w2 H2 hb2 hg2)
    obtain ⟨g4, Hg4⟩ : ∃ x, Hid (w1.heap.size = x) := ⟨_, lib_hid rfl⟩
    have HR : Hid (SB w2 (some ⟨g4, 0, none⟩) 32 32 ss) := by
      have h5 : Blk w2 g4 23 (ss.map b8).toArray := by rw [Hrs.out, ← Hg4.out]; exact H2
      have h6 := h5.part8 0 32 32 (by omega) (by rw [ssl.out]; omega) (by unfold maxLen; omega)
      rw [List.drop_zero, List.take_of_length_le (by rw [ssl.out]; omega)] at h6
      exact h6
    rw [Hg4.out]
    have Hg12 : Hid (Grows w1 w2) := hb2
    have HB2 := lib_hid (HB1.out.grows Hg12.out)
    have Hg02 : Hid (Grows w w2) := Hg1.out.trans Hg12.out
    have Hml : Hid ((ss.map b8).length = 32) := by unfold Hid; rw [List.length_map]; exact ssl.out
    have HAt := lib_hid (Row.ats HR.out (by omega))
    have hgl2 := HB2.out.lt
    clear H2 hb2 hg2 HN1 HB1 Hg1 Hg12
    go_upto_region 6 with (refine wpList_copy_any rfl _ _ 22 22 rfl 5 Tryd.underlying22 Tryd.sizeByte (some ⟨g, 0, none⟩) (some ⟨g4, 0, none⟩) 64 64 32 32 rfl rfl g 0 _ 42 HB2.out (ss.map b8) (by rw [Hml.out]; rfl) (fun _ => ⟨rfl, HAt.out⟩) (by rw [Hml.out, Hcl.out]; omega) (b8_one ss) ?_; intro w3 HB3 HG3)
    have hg3 : Grows w w3 := Hg02.out.grown HG3.out (fun i hi => by cases hi; exact Hgl.out)
    have HB4 : Hid (Blk w3 g 42 (HC (ss ++ List.replicate (64 - ss.length) 0) (.pointer none))) := by
      have h5 := HB3.out
      rw [hc_splice ss _ (by rw [ssl.out]; omega)] at h5
      exact h5
    have hK64 : (ss ++ List.replicate (64 - ss.length) 0 : List UInt8).length = 64 := by rw [List.length_append, List.length_replicate]; rw [ssl.out]
    have Hrs2 := lib_hid (hreset_any ks _ (.pointer none) g w.heap.size w3 Hkl.out (HK.out.grows hg3) hK64 HB4.out Hgl.out hg3.le Hw0.out)
    have Hg3 := lib_hid hg3
    clear HB3 HG3 hg3 hK64
    go_wp2_with fail
    refine Hrs2.out.mono ?_
    rintro e5 w5 ⟨rfl, gs, rb, hP, hk5, hgs, hrb⟩
    have hg5 : Grows w w5 := Keeps.grows' hk5 Hg3.out (fun i hi => by rw [hi]; exact Hgl.out)
    have Hf := lib_hid (And.intro hP hg5)
    clear hP hk5 hgs hrb hg5 Hrs2
    go_wp2
    go_ret
    exact ⟨g, gs, rb, rfl, Hf.out.2, Hgl.out, Hf.out.1⟩
  · have h64i : ¬ (n : Int) > 64 := by omega
    have HKB : Hid (keyB ks key = key ++ List.replicate (64 - key.length) 0) := by unfold Hid keyB; rw [if_neg (by omega)]
    rw [HKB.out]
    have HS0 : Hid (SB W0 A n c key) := hs.grows hg0
    have Hml : Hid ((key.map b8).length = n) := by unfold Hid; rw [List.length_map]; exact hlen
    have H64 : Hid (n ≤ 64) := by unfold Hid; omega
    have HAt : Hid (0 < (key.map b8).length → ∃ ad, A = some ad ∧ ∀ j v, (key.map b8)[j]? = some v → W0.cell? (ad.add j) = some v) := fun h => Row.ats HS0.out (by rw [← Hml.out]; exact h)
    obtain ⟨ss, Hss, ssl⟩ : ∃ x : List UInt8, Hid (key = x) ∧ Hid (x.length = n) := ⟨_, lib_hid rfl, lib_hid hlen⟩
    rw [Hss.out] at Hml HAt ⊢
    have hgl2 := HB0.out.lt
    have Hg02 := lib_hid hg0
    clear hs h64 hn hlen hkl hg0
    go_enter Tryd.func10, Tryd.ntmps10
    go_upto_region 2 with fail
    rw [← HW0.out, Hg.out]
    clear HW0 hzv
    go_upto_region 6 with (refine wpList_copy_any rfl _ _ 22 22 rfl 5 Tryd.underlying22 Tryd.sizeByte (some ⟨g, 0, none⟩) A 64 64 n c rfl rfl g 0 _ 42 HB0.out (ss.map b8) (by rw [Hml.out]; exact (Nat.min_eq_left H64.out).symm) (fun h => ⟨rfl, HAt.out h⟩) (by rw [Hml.out, Hcl.out]; have := H64.out; omega) (b8_one ss) ?_; intro w3 HB3 HG3)
    have hg3 : Grows w w3 := Hg02.out.grown HG3.out (fun i hi => by cases hi; exact Hgl.out)
    have HB4 : Hid (Blk w3 g 42 (HC (ss ++ List.replicate (64 - ss.length) 0) (.pointer none))) := by
      have h5 := HB3.out
      rw [hc_splice ss _ (by rw [ssl.out]; exact H64.out)] at h5
      exact h5
    have hK64 : (ss ++ List.replicate (64 - ss.length) 0 : List UInt8).length = 64 := by rw [List.length_append, List.length_replicate]; have := ssl.out; have := H64.out; omega
    have Hrs2 := lib_hid (hreset_any ks _ (.pointer none) g w.heap.size w3 Hkl.out (HK.out.grows hg3) hK64 HB4.out Hgl.out hg3.le Hw0.out)
    have Hg3 := lib_hid hg3
    clear HB3 HG3 hg3 hK64
    go_wp2_with fail
    refine Hrs2.out.mono ?_
    rintro e5 w5 ⟨rfl, gs, rb, hP, hk5, hgs, hrb⟩
    have hg5 : Grows w w5 := Keeps.grows' hk5 Hg3.out (fun i hi => by rw [hi]; exact Hgl.out)
    have Hf := lib_hid (And.intro hP hg5)
    clear hP hk5 hgs hrb hg5 Hrs2
    go_wp2
    go_ret
    exact ⟨g, gs, rb, rfl, Hf.out.2, Hgl.out, Hf.out.1⟩

set_option maxRecDepth 100000 in
set_option maxHeartbeats 4000000 in
theorem hmac_any {tK : TypeId} (ks : List UInt32) (key bs : List UInt8) (A B : Option Addr) (n c m d : Nat) (w : World) (hkl : ks.length = 64) (HK : Hid (Blk w 0 tK (ks.map b32).toArray)) (hs : SB w A n c key) (hb : SB w B m d bs) (hn : n ≤ 1000000) (hm : m ≤ 900000) :
    Calls Tryd.prog 7 #[.slice A n c, .slice B m d] w fun e w' => e = .returned (.agg ((hmF ks (keyB ks key) bs).map b8).toArray) ∧ Grows w w' := by
  obtain ⟨rs, Hrs, hrl, hra⟩ : ∃ rs : Array Value, Hid (((hmF ks (keyB ks key) bs).map b8).toArray = rs) ∧ Hid (rs.size = 32) ∧ Hid (rs.all (·.oneCell') = true) := ⟨_, lib_hid rfl, by unfold Hid; simp [hmF_len], lib_hid (cells_all _)⟩
  obtain ⟨W, HW⟩ : ∃ W : World, Hid (W = w.alloc (.cells #[.int .u8 0, .int .u8 0, .int .u8 0, .int .u8 0, .int .u8 0, .int .u8 0, .int .u8 0, .int .u8 0, .int .u8 0, .int .u8 0, .int .u8 0, .int .u8 0, .int .u8 0, .int .u8 0, .int .u8 0, .int .u8 0, .int .u8 0, .int .u8 0, .int .u8 0, .int .u8 0, .int .u8 0, .int .u8 0, .int .u8 0, .int .u8 0, .int .u8 0, .int .u8 0, .int .u8 0, .int .u8 0, .int .u8 0, .int .u8 0, .int .u8 0, .int .u8 0] 23)) := ⟨_, lib_hid rfl⟩
  have hgW : Grows w W := by rw [HW.out]; exact (Grows.refl w).alloc _
  have HgW := lib_hid hgW
  obtain ⟨gz, Hgz⟩ : ∃ x, Hid (w.heap.size = x) := ⟨_, lib_hid rfl⟩
  have HZ : Hid (Blk W gz 23 #[.int .u8 0, .int .u8 0, .int .u8 0, .int .u8 0, .int .u8 0, .int .u8 0, .int .u8 0, .int .u8 0, .int .u8 0, .int .u8 0, .int .u8 0, .int .u8 0, .int .u8 0, .int .u8 0, .int .u8 0, .int .u8 0, .int .u8 0, .int .u8 0, .int .u8 0, .int .u8 0, .int .u8 0, .int .u8 0, .int .u8 0, .int .u8 0, .int .u8 0, .int .u8 0, .int .u8 0, .int .u8 0, .int .u8 0, .int .u8 0, .int .u8 0, .int .u8 0]) := by unfold Hid; rw [HW.out, ← Hgz.out]; exact Blk.new _ _ _
  have HSW : Hid (SB W A n c key) := hs.grows hgW
  have HBW : Hid (SB W B m d bs) := hb.grows hgW
  have HKW := lib_hid (HK.out.grows hgW)
  have Hkl := lib_hid hkl
  have Hn := lib_hid (And.intro hn hm)
  have Hw0 : Hid (0 < W.heap.size) := Nat.lt_of_le_of_lt (Nat.zero_le _) HZ.out.lt
  have Hbl := lib_hid hb.len
  have HN := lib_hid (hnew_any ks key A n c W hkl HKW.out HSW.out hn)
  rw [Hrs.out]
  clear hgW hs hb HK hkl hn hm
  go_enter Tryd.func7, Tryd.ntmps7
  go_upto_region 1 with fail
  rw [← HW.out, Hgz.out]
  clear HW
  go_wp2_with fail
  refine HN.out.mono ?_
  rintro e1 w1 ⟨g, gs, rb, rfl, hg1, hgg, hP1⟩
  have Hg1 := lib_hid hg1
  have HP1 := lib_hid hP1
  have Hgg := lib_hid hgg
  have hBg : Hid (0 < m → ∀ p, B = some p → p.block ≠ gs) := fun h0 p hp => by
    obtain ⟨b', off', e', hb', _⟩ := HBW.out.2.2.2.2 h0
    rw [hp] at e'; cases e'
    show b' ≠ gs
    have := HP1.out.lt
    omega
  have Hwr := lib_hid (hwrite_any ks g gs W.heap.size rb (keyB ks key) [] bs B m d w1 Hkl.out (HKW.out.grows hg1) HP1.out (HBW.out.grows hg1) hBg.out hg1.le Hw0.out (by simp) Hn.out.2)
  clear hg1 hP1 hgg hBg HN
  go_wp2_with fail
  refine Hwr.out.mono ?_
  rintro e2 w2 ⟨rfl, rb2, hP2, hK2, hl2⟩
  rw [List.nil_append] at hP2
  have Hg2 : Hid (Grows W w2) := Keeps.grows' hK2 Hg1.out (fun i hi => by
    rcases hi with h | h
    · rw [h]; exact HP1.out.lt.2.2.1
    · exact (HP1.out.lt.2.2.2 i h).1)
  have HSM : Hid (Calls Tryd.prog 12 #[.pointer (some ⟨g, 0, none⟩)] w2 fun e w' => e = .returned (.agg rs) ∧ Grows w2 w') := by
    rw [← Hrs.out]; exact hsum_any ks g gs W.heap.size rb2 (keyB ks key) bs w2 Hkl.out (HKW.out.grows Hg2.out) hP2 (by rw [Hbl.out]; exact Hn.out.2)
  have HZ2 := lib_hid (HZ.out.grows Hg2.out)
  have Hgw2 : Hid (Grows w w2) := HgW.out.trans Hg2.out
  have Hgzl : Hid (w.heap.size ≤ gz) := by rw [← Hgz.out]; exact lib_hid (Nat.le_refl _)
  clear hP2 hK2 hl2 Hwr HP1 HSW HBW HKW HZ Hg2 Hg1
  go_wp2_with fail
  refine HSM.out.mono ?_
  rintro e3 w3 ⟨rfl, hg3⟩
  have HZ3 := lib_hid (HZ2.out.grows hg3)
  have Hg3 := lib_hid (Hgw2.out.trans hg3)
  clear hg3 HSM HZ2 Hgw2
  go_wp2_with (refine wpList_store_blk rfl _ _ _ rfl gz rs rfl rfl 23 _ HZ3.out (by rw [Tryd.size32B, hrl.out]) (by rw [hrl.out]; rfl) hra.out w.heap.size w Hg3.out Hgzl.out ?_; intro w8 H8 hb8 hg8)
  refine bodyPost_ret (results_cell_row rfl _ _ gz _ _ _ _ rfl H8 Tryd.underlying23 rfl (by rw [Tryd.size32B, hrl.out])) rfl ?_
  exact ⟨rfl, hb8⟩
set_option maxRecDepth 100000 in
set_option maxHeartbeats 4000000 in
theorem hsumNil_any (w : World) : Calls Tryd.prog 12 #[.pointer none] w fun e w' => e = .returned (.agg #[.int .u8 0, .int .u8 0, .int .u8 0, .int .u8 0, .int .u8 0, .int .u8 0, .int .u8 0, .int .u8 0, .int .u8 0, .int .u8 0, .int .u8 0, .int .u8 0, .int .u8 0, .int .u8 0, .int .u8 0, .int .u8 0, .int .u8 0, .int .u8 0, .int .u8 0, .int .u8 0, .int .u8 0, .int .u8 0, .int .u8 0, .int .u8 0, .int .u8 0, .int .u8 0, .int .u8 0, .int .u8 0, .int .u8 0, .int .u8 0, .int .u8 0, .int .u8 0]) ∧ Grows w w' := by
  obtain ⟨zc, Hzc, hzl, hza⟩ : ∃ zc : Array Value, Hid (#[.int .u8 0, .int .u8 0, .int .u8 0, .int .u8 0, .int .u8 0, .int .u8 0, .int .u8 0, .int .u8 0, .int .u8 0, .int .u8 0, .int .u8 0, .int .u8 0, .int .u8 0, .int .u8 0, .int .u8 0, .int .u8 0, .int .u8 0, .int .u8 0, .int .u8 0, .int .u8 0, .int .u8 0, .int .u8 0, .int .u8 0, .int .u8 0, .int .u8 0, .int .u8 0, .int .u8 0, .int .u8 0, .int .u8 0, .int .u8 0, .int .u8 0, .int .u8 0] = zc) ∧ Hid (zc.size = 32) ∧ Hid (zc.all (·.oneCell') = true) := ⟨_, lib_hid rfl, lib_hid rfl, by unfold Hid; kernel_rfl⟩
  obtain ⟨W, HW⟩ : ∃ W : World, Hid (W = w.alloc (.cells #[.int .u8 0, .int .u8 0, .int .u8 0, .int .u8 0, .int .u8 0, .int .u8 0, .int .u8 0, .int .u8 0, .int .u8 0, .int .u8 0, .int .u8 0, .int .u8 0, .int .u8 0, .int .u8 0, .int .u8 0, .int .u8 0, .int .u8 0, .int .u8 0, .int .u8 0, .int .u8 0, .int .u8 0, .int .u8 0, .int .u8 0, .int .u8 0, .int .u8 0, .int .u8 0, .int .u8 0, .int .u8 0, .int .u8 0, .int .u8 0, .int .u8 0, .int .u8 0] 23)) := ⟨_, lib_hid rfl⟩
  have hzv : (zeroValue 23).run Tryd.prog W = .ok (.agg zc) W := by rw [← Hzc.out]; kernel_rfl
  have hgW : Grows w W := by rw [HW.out]; exact (Grows.refl w).alloc _
  have HZ : Hid (Blk W w.heap.size 23 zc) := by unfold Hid; rw [HW.out, ← Hzc.out]; exact Blk.new _ _ _
  go_enter Tryd.func12, Tryd.ntmps12
  go_upto_region 1 with fail
  rw [← HW.out]
  clear HW
  go_wp2_with (refine wpList_store_blk rfl _ _ _ rfl w.heap.size zc rfl rfl 23 _ HZ.out (by rw [Tryd.size32B, hzl.out]) (by rw [hzl.out]) hza.out w.heap.size w hgW (Nat.le_refl _) ?_; intro w8 H8 hb8 hg8)
  refine bodyPost_ret (results_cell_row rfl _ _ w.heap.size _ _ _ _ rfl H8 Tryd.underlying23 rfl (by rw [Tryd.size32B, hzl.out])) rfl ?_
  exact ⟨by rw [Hzc.out], hb8⟩

set_option maxRecDepth 100000 in
set_option maxHeartbeats 4000000 in
theorem awake7_any {tK : TypeId} (w : World) (HK : Hid (Blk w 0 tK (shaK.map b32).toArray)) : Calls Tryd.prog 9 #[] w fun e w' => e = .returned (.bool true) ∧ Grows w w' := by
  obtain ⟨ks, Hks, hkl⟩ : ∃ ks, Hid (ks = shaK) ∧ ks.length = 64 := ⟨_, lib_hid rfl, shaK_len⟩
  rw [← Hks.out] at HK
  obtain ⟨ms, Hms, msl⟩ : ∃ ms, Hid (hmF ks (keyB ks [107, 101, 121]) foxL = ms) ∧ Hid (ms.length = 32) := ⟨_, lib_hid rfl, lib_hid (hmF_len _ _ _)⟩
  have Hat : Hid (∀ k, k < 4 → ms[k]? = ([247, 188, 131, 244] : List UInt8)[k]?) := fun k hk => by rw [← Hms.out]; exact hm_fox_at ks Hks.out k hk
  obtain ⟨rs, Hrs, hrl, hra⟩ : ∃ rs : Array Value, Hid ((ms.map b8).toArray = rs) ∧ rs.size = 32 ∧ rs.all (·.oneCell') = true := ⟨_, lib_hid rfl, by simp [msl.out], cells_all _⟩
  have Hcell : Hid (∀ (W : World) (g k : Nat) (x : UInt8), k < 4 → ([247, 188, 131, 244] : List UInt8)[k]? = some x → Blk W g 23 rs → W.cell? ⟨g, k, none⟩ = some (.int .u8 (x.toNat : Int))) := fun W g k x hk hx hB => by
    rw [hB.cell, ← Hrs.out, List.getElem?_toArray, List.getElem?_map, Hat.out k hk, hx]
    rfl
  obtain ⟨W, HW⟩ : ∃ W : World, Hid (W = w.alloc (.cells #[.int .u8 107, .int .u8 101, .int .u8 121] 5 (3, 4))) := ⟨_, lib_hid rfl⟩
  obtain ⟨fv, Hfv, hfs⟩ : ∃ fv : Array Value, Hid (((Value.int .u8 84 :: Value.int .u8 104 :: Value.int .u8 101 :: Value.int .u8 32 :: Value.int .u8 113 :: Value.int .u8 117 :: Value.int .u8 105 :: Value.int .u8 99 :: Value.int .u8 107 :: Value.int .u8 32 :: Value.int .u8 98 :: Value.int .u8 114 :: Value.int .u8 111 :: Value.int .u8 119 :: Value.int .u8 110 :: Value.int .u8 32 :: Value.int .u8 102 :: Value.int .u8 111 :: Value.int .u8 120 :: Value.int .u8 32 :: Value.int .u8 106 :: Value.int .u8 117 :: Value.int .u8 109 :: Value.int .u8 112 :: Value.int .u8 115 :: Value.int .u8 32 :: Value.int .u8 111 :: Value.int .u8 118 :: Value.int .u8 101 :: Value.int .u8 114 :: Value.int .u8 32 :: Value.int .u8 116 :: Value.int .u8 104 :: Value.int .u8 101 :: Value.int .u8 32 :: Value.int .u8 108 :: Value.int .u8 97 :: Value.int .u8 122 :: Value.int .u8 121 :: Value.int .u8 32 :: Value.int .u8 100 :: Value.int .u8 111 :: Value.int .u8 103 :: [] : List Value).toArray) = fv) ∧ fv.size = 43 := ⟨_, lib_hid rfl, rfl⟩
  obtain ⟨W2, HW2⟩ : ∃ W2 : World, Hid (W2 = W.alloc (.cells fv 5 (43, 44))) := ⟨_, lib_hid rfl⟩
  have Hg : Hid (Grows w W) := by unfold Hid; rw [HW.out]; exact (Grows.refl w).alloc _
  have HgW2 : Hid (Grows W W2) := by unfold Hid; rw [HW2.out]; exact (Grows.refl W).alloc _
  have HS : Hid (SB W (some ⟨w.heap.size, 0, none⟩) 3 3 [107, 101, 121]) := by
    unfold Hid; rw [HW.out]
    refine ⟨rfl, by omega, by unfold maxLen; omega, fun h => (by cases h), fun _ => ⟨w.heap.size, 0, rfl, by simp, fun j hj => ?_⟩⟩
    rw [cell_of_row _ w.heap.size (0 + j) _ _ _ (heap_alloc_new w _), Nat.zero_add]
    match j, hj with
    | 0, _ => rfl
    | 1, _ => rfl
    | 2, _ => rfl
  have Hfx : Hid (fv = (foxL.map b8).toArray) := by rw [← Hfv.out]; unfold foxL; rfl
  have hsz : W.heap.size = w.heap.size + 1 := by rw [HW.out]; simp
  have HF : Hid (SB W2 (some ⟨w.heap.size + 1, 0, none⟩) 43 43 foxL) := by
    unfold Hid; rw [HW2.out, ← hsz]
    refine ⟨by unfold foxL; rfl, by omega, by unfold maxLen; omega, fun h => (by cases h), fun _ => ⟨W.heap.size, 0, rfl, by simp, fun j hj => ?_⟩⟩
    rw [cell_of_row _ W.heap.size (0 + j) _ _ _ (heap_alloc_new W _), Nat.zero_add, Hfx.out, List.getElem?_toArray]
  have HC : Hid (Calls Tryd.prog 7 #[.slice (some ⟨w.heap.size, 0, none⟩) 3 3, .slice (some ⟨w.heap.size + 1, 0, none⟩) 43 43] W2 fun e w' => e = .returned (.agg rs) ∧ Grows W2 w') := by
    have := hmac_any ks [107, 101, 121] foxL (some ⟨w.heap.size, 0, none⟩) (some ⟨w.heap.size + 1, 0, none⟩) 3 3 43 43 W2 hkl (HK.out.grows (Hg.out.trans HgW2.out)) (HS.out.grows HgW2.out) HF.out (by omega) (by omega)
    rw [Hms.out, Hrs.out] at this
    exact this
  have hcv := Go.Lib.run_convert_bytes_const (P := Tryd.prog) w 22 5 #[.int .u8 107, .int .u8 101, .int .u8 121] 3 3 Tryd.underlying22 Tryd.underlying5
  change _ = Result.ok _ (w.alloc (.cells #[.int .u8 107, .int .u8 101, .int .u8 121] 5 (3, 4))) at hcv
  rw [← HW.out] at hcv
  have hcv2 := Go.Lib.run_convert_bytes_const (P := Tryd.prog) W 22 5 fv 43 43 Tryd.underlying22 Tryd.underlying5
  rw [hfs] at hcv2
  change _ = Result.ok _ (W.alloc (.cells fv 5 (43, 44))) at hcv2
  rw [← HW2.out, ← Hfv.out, hsz] at hcv2
  clear HS HK Hks hkl Hms Hat Hrs HF Hfx HW HW2 hfs
  go_enter Tryd.func9, Tryd.ntmps9
  go_wp2_with fail
  refine HC.out.mono ?_
  rintro e1 w1 ⟨rfl, hg1⟩
  have Hg1 : Hid (Grows w w1) := Hg.out.trans (HgW2.out.trans hg1)
  clear hg1 HC Hg HgW2 hcv hcv2 hsz Hfv
  have HZ : Hid (Blk (w1.alloc (.cells #[.int .u8 0, .int .u8 0, .int .u8 0, .int .u8 0, .int .u8 0, .int .u8 0, .int .u8 0, .int .u8 0, .int .u8 0, .int .u8 0, .int .u8 0, .int .u8 0, .int .u8 0, .int .u8 0, .int .u8 0, .int .u8 0, .int .u8 0, .int .u8 0, .int .u8 0, .int .u8 0, .int .u8 0, .int .u8 0, .int .u8 0, .int .u8 0, .int .u8 0, .int .u8 0, .int .u8 0, .int .u8 0, .int .u8 0, .int .u8 0, .int .u8 0, .int .u8 0] 23)) w1.heap.size 23 #[.int .u8 0, .int .u8 0, .int .u8 0, .int .u8 0, .int .u8 0, .int .u8 0, .int .u8 0, .int .u8 0, .int .u8 0, .int .u8 0, .int .u8 0, .int .u8 0, .int .u8 0, .int .u8 0, .int .u8 0, .int .u8 0, .int .u8 0, .int .u8 0, .int .u8 0, .int .u8 0, .int .u8 0, .int .u8 0, .int .u8 0, .int .u8 0, .int .u8 0, .int .u8 0, .int .u8 0, .int .u8 0, .int .u8 0, .int .u8 0, .int .u8 0, .int .u8 0]) := Blk.new _ _ _
  have Hle := lib_hid Hg1.out.le
  go_upto_region 2 with (refine wpList_store_blk rfl _ _ _ rfl w1.heap.size rs rfl rfl 23 _ HZ.out (by rw [Tryd.size32B, hrl]) (by rw [hrl]; rfl) hra w.heap.size w (Hg1.out.alloc _) Hle.out ?_; intro w8 H8 hb8 hg8)
  obtain ⟨gz, Hgz⟩ : ∃ x, Hid (w1.heap.size = x) := ⟨_, lib_hid rfl⟩
  rw [Hgz.out] at H8 ⊢
  have c0 := Hcell.out w8 gz 0 247 (by omega) rfl H8
  have c1 := Hcell.out w8 gz 1 188 (by omega) rfl H8
  have c2 := Hcell.out w8 gz 2 131 (by omega) rfl H8
  have c3 := Hcell.out w8 gz 3 244 (by omega) rfl H8
  change w8.cell? ⟨gz, 0, none⟩ = some (.int .u8 247) at c0
  change w8.cell? ⟨gz, 1, none⟩ = some (.int .u8 188) at c1
  change w8.cell? ⟨gz, 2, none⟩ = some (.int .u8 131) at c2
  change w8.cell? ⟨gz, 3, none⟩ = some (.int .u8 244) at c3
  have Hb8 := lib_hid hb8
  clear H8 hg8 HZ Hcell hrl hra hb8
  go_wp2
  go_ret
  exact ⟨rfl, Hb8.out⟩

end Go.Proofs.YtngmclajfbknjaaDoor
