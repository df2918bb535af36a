/-
  The walk of TopTags.
-/
import Derived.Test.YthcmdjaccjghjaaGcm5
import Derived.Deep.Cut
import Derived.Deep.RegionLaw
namespace Go.Proofs.Ythcmdjaccjghjaa
open Go Go.RowKit
set_option linter.unusedSimpArgs false
set_option linter.unusedVariables false


theorem slice_head12 (p o : Nat) (W : World) : Sem.run Try.prog (Instr.sliceAt 23 (.pointer (some ⟨p, o, none⟩)) none (some (.int .i64 12)) none) W = .ok (.slice (some ⟨p, o, none⟩) 12 16) W := by
  have hz := Try.sizeByte
  simp [Instr.sliceAt, go_sem, Try.underlying23, hz]
theorem padG_whole (xs : List UInt8) (h : xs.length % 16 = 0) : padG xs = xs := by
  unfold padG padF
  rw [h]
  simp
set_option maxRecDepth 100000 in
set_option maxHeartbeats 4000000 in
theorem walk_TopTags (K : List UInt8) (L : Bool) (IV : List UInt8) (A : Option Addr) (n c : Nat) (a : List UInt8) (B : Option Addr) (m d : Nat) (b : List UInt8) (w : World) (hK : K.length = 32) (hI : IV.length = 16) (hs : SB w A n c a) (hb : SB w B m d b) :
    Calls Try.prog 4 #[.agg (keyV K L IV), .slice A n c, .slice B m d] w fun e w' => e = .returned (.bool true) ∧ Grows w w' := by
  obtain ⟨cs, Hcs, hcs⟩ : ∃ cs, Hid (keyV K L IV = cs) ∧ Hid (cs.size = 49) := ⟨_, lib_hid rfl, lib_hid (by simp [keyV, hK, hI])⟩
  obtain ⟨kl, hkb, hex⟩ := keyBytes_top K IV L hK hI
  have HKB := lib_hid hkb
  have HEX := lib_hid hex
  have hal := lib_hid hs.len
  have hbl := lib_hid hb.len
  have hcm := hs.max
  have hdm := hb.max
  have hnc := hs.cap
  have hmd := hb.cap
  have HSa := lib_hid hs
  have HSb := lib_hid hb
  have hnr := keyN_le L
  rw [Hcs.out]
  rw [Hcs.out] at HKB
  clear hkb hex hs hb
  by_cases h1 : 96 < m
  · have h1i : (96 : Int) < (m : Int) := by omega
    clear HKB HEX HSa HSb hcm hdm hnc hmd h1
    go_enter Try.func4, Try.ntmps4
    go_wp2
    go_ret
    exact ⟨rfl, (Grows.refl _).alloc _⟩
  have h1i : ¬ (96 : Int) < (m : Int) := by omega
  by_cases h4 : 96 < n
  · have h4i : (96 : Int) < (n : Int) := by omega
    clear HKB HEX HSa HSb hcm hdm hnc hmd h4
    go_enter Try.func4, Try.ntmps4
    go_wp2
    go_ret
    exact ⟨rfl, (Grows.refl _).alloc _⟩
  have h4i : ¬ (96 : Int) < (n : Int) := by omega
  obtain ⟨r, hr, hrr⟩ : ∃ r : Nat, Hid (m % 16 = r) ∧ (m : Int).tmod 16 = (r : Int) := ⟨m % 16, lib_hid rfl, by rw [Int.tmod_eq_emod_of_nonneg (by omega)]; omega⟩
  by_cases h2 : r = 0
  case neg =>
    have h2i : ¬ (r : Int) = 0 := by omega
    clear HKB HEX HSa HSb hcm hdm hnc hmd
    go_enter Try.func4, Try.ntmps4
    go_wp2
    go_ret
    exact ⟨rfl, (Grows.refl _).alloc _⟩
  have h2i : (r : Int) = 0 := by omega
  rw [h2i] at hrr
  obtain ⟨r2, hr2, hrr2⟩ : ∃ r : Nat, Hid (n % 16 = r) ∧ (n : Int).tmod 16 = (r : Int) := ⟨n % 16, lib_hid rfl, by rw [Int.tmod_eq_emod_of_nonneg (by omega)]; omega⟩
  by_cases h3 : r2 = 0
  case neg =>
    have h3i : ¬ (r2 : Int) = 0 := by omega
    clear HKB HEX HSa HSb hcm hdm hnc hmd
    go_enter Try.func4, Try.ntmps4
    go_wp2
    go_ret
    exact ⟨rfl, (Grows.refl _).alloc _⟩
  have h3i : (r2 : Int) = 0 := by omega
  rw [h3i] at hrr2
  have hm16 : Hid (m % 16 = 0) := lib_hid (by rw [hr.out, h2])
  have hn16 : Hid (n % 16 = 0) := lib_hid (by rw [hr2.out, h3])
  obtain ⟨p0, Hp0⟩ : ∃ p0, Hid (w.heap.size = p0) := ⟨_, lib_hid rfl⟩
  obtain ⟨W0, HW0⟩ : ∃ W0, Hid (w.alloc (.cells cs 25) = W0) := ⟨_, lib_hid rfl⟩
  have HB0 : Hid (Blk W0 p0 25 cs) := by unfold Hid; rw [← HW0.out, ← Hp0.out]; exact Blk.new w _ _
  have HG0 : Hid (Grows w W0) := by unfold Hid; rw [← HW0.out]; exact (Grows.refl w).alloc _
  go_enter Try.func4, Try.ntmps4
  go_upto_region 3 with fail
  rw [HW0.out, Hp0.out]
  clear h1i h4i h2i h3i HW0
  go_wp2_with (refine wpList_load_blk rfl _ _ rfl p0 rfl 25 cs _ HB0.out Try.underlying25 rfl (by rw [Try.sizeKey, hcs.out]) ?_)
  refine (HKB.out W0).mono ?_
  rintro e w1 ⟨g0, rfl, hg1, hs1⟩
  have HG1 := lib_hid (HG0.out.trans hg1)
  have HB1 := lib_hid (HB0.out.grows hg1)
  have HS1 := lib_hid hs1
  clear hg1 hs1 HB0
  go_wp2_with fail
  refine (HEX.out w1 g0 HS1.out).mono ?_
  rintro e w2 ⟨g, rfl, hg2, hgg, hk2⟩
  obtain ⟨ws, Hws⟩ : ∃ ws, Hid (keyW K L = ws) := ⟨_, lib_hid rfl⟩
  obtain ⟨nr, Hnr, hnr1, hnr2⟩ : ∃ nr, Hid (keyN L = nr) ∧ 1 ≤ nr ∧ nr ≤ 14 := ⟨_, lib_hid rfl, hnr.1, hnr.2⟩
  rw [Hws.out, Hnr.out] at hk2
  have HG2 := lib_hid (HG1.out.trans hg2)
  have HB2 := lib_hid (HB1.out.grows hg2)
  obtain ⟨E, HE, hE⟩ : ∃ E : List UInt8 → List UInt8, Hid (encF tabF ws nr = E) ∧ Hid (∀ xs, (E xs).length = 16) := ⟨_, lib_hid rfl, lib_hid (fun xs => encF_len _ _ _ xs)⟩
  have HEn : Hid (∀ (xs : List UInt8) (W : World), xs.length = 16 → Grows w2 W → Calls Try.prog 13 #[.pointer (some ⟨g, 0, none⟩), .agg (xs.map b8).toArray] W fun e w' => e = .returned (.agg ((E xs).map b8).toArray) ∧ Grows W w') := fun xs W hx hW => by
    have := encrypt_any w2.heap.size g nr tabF ws xs W (hk2.below hW) hx hnr1 hnr2
    rw [HE.out] at this
    exact this
  have HK2 : Hid (∀ W, Grows w2 W → KeyR W w2.heap.size g tabF ws nr) := fun W hW => hk2.below hW
  obtain ⟨iv, Hiv, ivl⟩ : ∃ iv : List UInt8, Hid (IV.take 12 = iv) ∧ Hid (iv.length = 12) := ⟨_, lib_hid rfl, lib_hid (by rw [List.length_take, hI]; rfl)⟩
  have HIV : Hid (∀ W', Grows w2 W' → SB W' (some ⟨p0, 33, none⟩) 12 16 iv) := fun W' hW' => by
    have := sb_head (key_iv hK hI (by rw [Hcs.out]; exact HB2.out.grows hW')) (show 12 ≤ 16 by omega)
    rw [Hiv.out] at this
    exact this
  have Hs33 : Hid (∀ W, Sem.run Try.prog (Instr.sliceAt 23 (.pointer (some ⟨p0, 33, none⟩)) none (some (.int .i64 12)) none) W = .ok (.slice (some ⟨p0, 33, none⟩) 12 16) W) := fun W => slice_head12 p0 33 W
  obtain ⟨f, Hf, fl⟩ : ∃ f : List UInt8, Hid (firstG iv = f) ∧ Hid (f.length = 16) := ⟨_, lib_hid rfl, lib_hid (by unfold firstG; rw [List.length_append, ivl.out]; rfl)⟩
  have HFi : Hid (∀ W, Grows w2 W → Calls Try.prog 14 #[.pointer (some ⟨g, 0, none⟩), .slice (some ⟨p0, 33, none⟩) 12 16] W fun e w' => e = .returned (.agg (f.map b8).toArray) ∧ Grows W w') := fun W hW => by
    rw [← Hf.out]; exact first_any w2.heap.size g nr tabF ws iv _ 16 W (HK2.out W hW) hnr1 hnr2 (HIV.out W hW)
  clear hg2 hgg hk2 HS1 HB1 HEX HKB
  obtain ⟨ez, Hez, ezl⟩ : ∃ ez : List UInt8, Hid (E z16 = ez) ∧ Hid (ez.length = 16) := ⟨_, lib_hid rfl, lib_hid (hE.out _)⟩
  obtain ⟨ef, Hef, efl⟩ : ∃ ef : List UInt8, Hid (E f = ef) ∧ Hid (ef.length = 16) := ⟨_, lib_hid rfl, lib_hid (hE.out _)⟩
  obtain ⟨sl, Hsl, sll⟩ : ∃ sl : List UInt8, Hid (xorF b (strmF E f b.length) = sl) ∧ Hid (sl.length = m) := ⟨_, lib_hid rfl, lib_hid (by rw [xorF_len, strmF_len hE.out, hbl.out, Nat.min_self])⟩
  obtain ⟨ll, Hll, lll⟩ : ∃ ll : List UInt8, Hid (blockF (8 * UInt64.ofInt (n : Int)) (8 * UInt64.ofInt (m : Int)) = ll) ∧ Hid (ll.length = 16) := ⟨_, lib_hid rfl, lib_hid (blockF_len _ _)⟩
  obtain ⟨all, Hall⟩ : ∃ all, Hid (a ++ sl ++ ll = all) := ⟨_, lib_hid rfl⟩
  obtain ⟨hh, Hhh, hhl⟩ : ∃ hh : List UInt8, Hid (sumF ez all = hh) ∧ Hid (hh.length = 16) := ⟨_, lib_hid rfl, lib_hid (sumF_lenG _ _)⟩
  obtain ⟨tg, Htg⟩ : ∃ tg : List UInt8, Hid (xorF hh ef = tg) := ⟨_, lib_hid rfl⟩
  have HXs : Hid (sealG E f a b = sl ++ tg) := by
    unfold Hid sealG
    rw [Hsl.out]
    unfold tagG hashF
    rw [hal.out, sll.out, Hll.out, Hez.out, Hef.out]
    show sl ++ xorF (sumF ez (padG a ++ (padG sl ++ []) ++ ll)) ef = _
    rw [padG_whole a (by rw [hal.out]; exact hn16.out), padG_whole sl (by rw [sll.out]; exact hm16.out), List.append_nil, Hall.out, Hhh.out, Htg.out]
  have HSe : Hid (Calls Try.prog 10 #[.pointer (some ⟨g, 0, none⟩), .slice (some ⟨p0, 33, none⟩) 12 16, .slice A n c, .slice B m d] w2 (Sealed (m + 16) (sl ++ tg) w2)) := by
    have := gcmSeal_any w2.heap.size g nr tabF ws iv (some ⟨p0, 33, none⟩) 16 A n c a B m d b w2 (HK2.out w2 (Grows.refl _)) hnr1 hnr2 (HIV.out w2 (Grows.refl _)) (HSa.out.grows HG2.out) (HSb.out.grows HG2.out) (by omega) (by omega)
    rw [HE.out, Hf.out, HXs.out] at this
    exact this
  have hs33 := Hs33.out
  go_wp2_with fail
  refine HSe.out.mono ?_
  rintro e w3 ⟨X, cx, rfl, hg3, hs3⟩
  have HX3 := lib_hid hs3
  have HG3 := lib_hid hg3
  obtain ⟨xb, xo, rfl, _, _⟩ := hs3.2.2.2.2 (by omega)
  have hcx := hs3.cap
  have hcxm := hs3.max
  have hle := lengths_any (n : Int) (m : Int)
  rw [Hll.out] at hle
  have HLe := lib_hid hle
  clear hs3 hg3 HSe hle hs33 hrr hrr2 h2 h3
  go_upto_region 9 with fail
  go_wp2_with fail
  refine (HLe.out w3).mono ?_
  rintro e w4 ⟨rfl, hg4⟩
  obtain ⟨lc, Hlc, hlc⟩ : ∃ lc, Hid ((ll.map b8).toArray = lc) ∧ lc.size = 16 := ⟨_, lib_hid rfl, by simp [lll.out]⟩
  have HLa : Hid (lc.all (·.oneCell') = true) := by unfold Hid; rw [← Hlc.out]; exact cells_all _
  rw [Hlc.out]
  have HBz : Hid (Blk (w4.alloc (.cells #[.int .u8 0, .int .u8 0, .int .u8 0, .int .u8 0, .int .u8 0, .int .u8 0, .int .u8 0, .int .u8 0, .int .u8 0, .int .u8 0, .int .u8 0, .int .u8 0, .int .u8 0, .int .u8 0, .int .u8 0, .int .u8 0] 23)) w4.heap.size 23 #[.int .u8 0, .int .u8 0, .int .u8 0, .int .u8 0, .int .u8 0, .int .u8 0, .int .u8 0, .int .u8 0, .int .u8 0, .int .u8 0, .int .u8 0, .int .u8 0, .int .u8 0, .int .u8 0, .int .u8 0, .int .u8 0]) := lib_hid (Blk.new w4 _ _)
  have HG4 := lib_hid (HG3.out.trans hg4)
  have HX4 := lib_hid (HX3.out.grows hg4)
  clear hg4 HX3 HG3
  go_upto_region 10 with (refine wpList_store_blk rfl _ _ _ rfl w4.heap.size lc rfl rfl 23 _ HBz.out (by rw [Try.size16, hlc]) (by rw [hlc]; rfl) HLa.out w4.heap.size w4 ((Below.refl _ w4).alloc (Nat.le_refl _) _) (Nat.le_refl _) ?_; intro w5 hB5 hb5 hg5)
  obtain ⟨p11, Hp11⟩ : ∃ p11, Hid (w4.heap.size = p11) := ⟨_, lib_hid rfl⟩
  rw [Hp11.out] at hB5 ⊢
  have HG5 : Hid (Grows w2 w5) := lib_hid (HG4.out.trans (show Grows w4 w5 from hb5))
  have HX5 : Hid (SB w5 (some ⟨xb, xo, none⟩) (m + 16) cx (sl ++ tg)) := lib_hid (HX4.out.grows (show Grows w4 w5 from hb5))
  have HSl : Hid (SB w5 (some ⟨p11, 0, none⟩) 16 16 ll) := by
    rw [← Hlc.out] at hB5
    have := hB5.row (o := 0) (n := 16) (c := 16) (by omega) (by simp [lll.out]) (by unfold maxLen; omega)
    rw [List.drop_zero, List.take_of_length_le (by simp [lll.out])] at this
    exact lib_hid this
  have HXm : Hid (SB w5 (some ⟨xb, xo, none⟩) m cx sl) := by
    have := sb_head HX5.out (show m ≤ m + 16 by omega)
    rw [List.take_left' sll.out] at this
    exact lib_hid this
  have hsx := fun W => run_sl_hA (P := Try.prog) Try.underlying26 Try.sizeByte (some ⟨xb, xo, none⟩) (m + 16) cx m (m : Int) rfl (by omega) W
  have hs11 := fun W => slice_all16 p11 W
  have hgd : Grows w5 (w5.drew.alloc (.cells #[] 5)) := (Grows.refl w5).drew.alloc _
  have HO1 : Hid (OwnAt (w5.drew.alloc (.cells #[] 5)) w5.heap.size (some ⟨w5.heap.size, 0, none⟩) 0 0 []) := OwnAt.of_own (World.ownsRow_lit (base := w5.heap.size) (e := 5) (size := 1) w5.drew #[] 0 (Nat.le_refl _) (by unfold maxLen; omega) rfl)
  have HA1 := lib_hid (HSa.out.grows (HG2.out.trans (HG5.out.trans hgd)))
  have HGd := lib_hid hgd
  have hle1 : w5.heap.size ≤ (w5.drew.alloc (.cells #[] 5)).heap.size := hgd.size
  clear hgd hB5 hb5 hg5 HBz HG4 HX4 HLa Hlc
  go_region_law (first
      | (refine step_append_atT rfl (.tmp 67) (.tmp 68) 26 26 rfl w5.heap.size 5 (.int .u8 0) 1 Try.underlying26 Try.infoByte rfl (some ⟨w5.heap.size, 0, none⟩) 0 0 [] rfl HO1.out (.slice A n c) rfl n _ (Row.src HA1.out Try.underlying26 (b8_one a)) (by omega) (by omega) hle1 ?_; intro A6 c6 w6 hO6 hG6 hl6; rw [Nat.zero_add, List.nil_append] at hO6; try rw [Nat.zero_add]; have HO6 := lib_hid hO6; have HG6 : Hid (Grows w5 w6) := HGd.out.grown hG6 (fun k hk => by cases hk; exact Nat.le_refl _); have HX6 := lib_hid (HXm.out.grows HG6.out); have hle6 := HG6.out.size; clear hO6 hG6 hl6)
      | (refine step_append_atT rfl (.tmp 69) (.tmp 73) 26 26 rfl w5.heap.size 5 (.int .u8 0) 1 Try.underlying26 Try.infoByte rfl A6 n c6 _ rfl HO6.out (.slice (some ⟨xb, xo, none⟩) m cx) rfl m _ (Row.src HX6.out Try.underlying26 (b8_one sl)) (by omega) (by omega) hle6 ?_; intro A7 c7 w7 hO7 hG7 hl7; have HO7 := lib_hid hO7; have HG7 : Hid (Grows w5 w7) := HG6.out.grown hG7 (fun k hk => by obtain ⟨q2, hq2, hqb⟩ := Option.map_eq_some_iff.1 hk; have := HO6.out.base_le q2 hq2; omega); have HL7 := lib_hid (HSl.out.grows HG7.out); have hle7 := HG7.out.size; clear hO7 hG7 hl7)
      | (refine step_append_atT rfl (.tmp 74) (.tmp 75) 26 26 rfl w5.heap.size 5 (.int .u8 0) 1 Try.underlying26 Try.infoByte rfl A7 (n + m) c7 _ rfl HO7.out (.slice (some ⟨p11, 0, none⟩) 16 16) rfl 16 _ (Row.src HL7.out Try.underlying26 (b8_one ll)) (by omega) (by omega) hle7 ?_; intro A8 c8 w8 hO8 hG8 hl8; have HS8 : Hid (SB w8 A8 (n + m + 16) c8 all) := (by have h := hO8.row; rw [← List.map_append, ← List.map_append, Hall.out] at h; exact h); have HG8 : Hid (Grows w5 w8) := HG7.out.grown hG8 (fun k hk => by obtain ⟨q2, hq2, hqb⟩ := Option.map_eq_some_iff.1 hk; have := HO7.out.base_le q2 hq2; omega); clear hO8 hG8 hl8))
  have HG28 : Hid (Grows w2 w8) := lib_hid (HG5.out.trans HG8.out)
  have HX8 : Hid (SB w8 (some ⟨xb, xo, none⟩) (m + 16) cx (sl ++ tg)) := lib_hid (HX5.out.grows HG8.out)
  clear HO1 HA1 HGd hle1 HO6 HG6 HX6 hle6 HO7 HG7 HL7 hle7 HG5 HG8 HX5 HXm HSl hsx hs11
  have HEz : Hid (∀ W, Grows w2 W → Calls Try.prog 13 #[.pointer (some ⟨g, 0, none⟩), .agg #[.int .u8 0, .int .u8 0, .int .u8 0, .int .u8 0, .int .u8 0, .int .u8 0, .int .u8 0, .int .u8 0, .int .u8 0, .int .u8 0, .int .u8 0, .int .u8 0, .int .u8 0, .int .u8 0, .int .u8 0, .int .u8 0]] W fun e w' => e = .returned (.agg (ez.map b8).toArray) ∧ Grows W w') := fun W hW => by
    have := HEn.out z16 W rfl hW
    rw [Hez.out] at this
    exact this
  have HEf : Hid (∀ W, Grows w2 W → Calls Try.prog 13 #[.pointer (some ⟨g, 0, none⟩), .agg (f.map b8).toArray] W fun e w' => e = .returned (.agg (ef.map b8).toArray) ∧ Grows W w') := fun W hW => by
    have := HEn.out f W fl.out hW
    rw [Hef.out] at this
    exact this
  go_wp2_with fail
  refine (HEz.out w8 HG28.out).mono ?_
  rintro e w9 ⟨rfl, hg9⟩
  have HS9 := lib_hid (HS8.out.grows hg9)
  have HG9 := lib_hid (HG28.out.trans hg9)
  have HX9 := lib_hid (HX8.out.grows hg9)
  clear hg9 HS8 HG28 HX8
  go_wp2_with fail
  refine (sum_any ez all A8 (n + m + 16) c8 ezl.out w9 HS9.out).mono ?_
  rintro e w10 ⟨rfl, hg10⟩
  rw [Hhh.out]
  obtain ⟨hc, Hhc, hhc⟩ : ∃ hc, Hid ((hh.map b8).toArray = hc) ∧ hc.size = 16 := ⟨_, lib_hid rfl, by simp [hhl.out]⟩
  have HHa : Hid (hc.all (·.oneCell') = true) := by unfold Hid; rw [← Hhc.out]; exact cells_all _
  rw [Hhc.out]
  have HBz : Hid (Blk (w10.alloc (.cells #[.int .u8 0, .int .u8 0, .int .u8 0, .int .u8 0, .int .u8 0, .int .u8 0, .int .u8 0, .int .u8 0, .int .u8 0, .int .u8 0, .int .u8 0, .int .u8 0, .int .u8 0, .int .u8 0, .int .u8 0, .int .u8 0] 23)) w10.heap.size 23 #[.int .u8 0, .int .u8 0, .int .u8 0, .int .u8 0, .int .u8 0, .int .u8 0, .int .u8 0, .int .u8 0, .int .u8 0, .int .u8 0, .int .u8 0, .int .u8 0, .int .u8 0, .int .u8 0, .int .u8 0, .int .u8 0]) := lib_hid (Blk.new w10 _ _)
  have HG10 := lib_hid (HG9.out.trans hg10)
  have HX10 := lib_hid (HX9.out.grows hg10)
  clear hg10 HS9 HG9 HX9
  go_upto_region 12 with (refine wpList_store_blk rfl _ _ _ rfl w10.heap.size hc rfl rfl 23 _ HBz.out (by rw [Try.size16, hhc]) (by rw [hhc]; rfl) HHa.out w10.heap.size w10 ((Below.refl _ w10).alloc (Nat.le_refl _) _) (Nat.le_refl _) ?_; intro w11 hB11 hb11 hg11)
  obtain ⟨p13, Hp13⟩ : ∃ p13, Hid (w10.heap.size = p13) := ⟨_, lib_hid rfl⟩
  rw [Hp13.out] at hB11 ⊢
  have HG11 : Hid (Grows w2 w11) := lib_hid (HG10.out.trans (show Grows w10 w11 from hb11))
  have HX11 : Hid (SB w11 (some ⟨xb, xo, none⟩) (m + 16) cx (sl ++ tg)) := lib_hid (HX10.out.grows (show Grows w10 w11 from hb11))
  have HH11 : Hid (SB w11 (some ⟨p13, 0, none⟩) 16 16 hh) := by
    rw [← Hhc.out] at hB11
    have := hB11.row (o := 0) (n := 16) (c := 16) (by omega) (by simp [hhl.out]) (by unfold maxLen; omega)
    rw [List.drop_zero, List.take_of_length_le (by simp [hhl.out])] at this
    exact lib_hid this
  have hs33 := Hs33.out
  clear hB11 hb11 hg11 HBz HG10 HX10 HHa Hhc
  go_wp2_with fail
  refine (HFi.out w11 HG11.out).mono ?_
  rintro e w12 ⟨rfl, hg12⟩
  go_wp2_with fail
  refine (HEf.out w12 (HG11.out.trans hg12)).mono ?_
  rintro e w13 ⟨rfl, hg13⟩
  obtain ⟨ec, Hec, hec⟩ : ∃ ec, Hid ((ef.map b8).toArray = ec) ∧ ec.size = 16 := ⟨_, lib_hid rfl, by simp [efl.out]⟩
  have HEa : Hid (ec.all (·.oneCell') = true) := by unfold Hid; rw [← Hec.out]; exact cells_all _
  rw [Hec.out]
  have HBz : Hid (Blk (w13.alloc (.cells #[.int .u8 0, .int .u8 0, .int .u8 0, .int .u8 0, .int .u8 0, .int .u8 0, .int .u8 0, .int .u8 0, .int .u8 0, .int .u8 0, .int .u8 0, .int .u8 0, .int .u8 0, .int .u8 0, .int .u8 0, .int .u8 0] 23)) w13.heap.size 23 #[.int .u8 0, .int .u8 0, .int .u8 0, .int .u8 0, .int .u8 0, .int .u8 0, .int .u8 0, .int .u8 0, .int .u8 0, .int .u8 0, .int .u8 0, .int .u8 0, .int .u8 0, .int .u8 0, .int .u8 0, .int .u8 0]) := lib_hid (Blk.new w13 _ _)
  have HG13 := lib_hid (HG11.out.trans (hg12.trans hg13))
  have HX13 := lib_hid (HX11.out.grows (hg12.trans hg13))
  have HH13 := lib_hid (HH11.out.grows (hg12.trans hg13))
  clear hg12 hg13 HG11 HX11 HH11 hs33
  go_upto_region 13 with (refine wpList_store_blk rfl _ _ _ rfl w13.heap.size ec rfl rfl 23 _ HBz.out (by rw [Try.size16, hec]) (by rw [hec]; rfl) HEa.out w13.heap.size w13 ((Below.refl _ w13).alloc (Nat.le_refl _) _) (Nat.le_refl _) ?_; intro w14 hB14 hb14 hg14)
  obtain ⟨p14, Hp14⟩ : ∃ p14, Hid (w13.heap.size = p14) := ⟨_, lib_hid rfl⟩
  rw [Hp14.out] at hB14 ⊢
  have HG14 : Hid (Grows w w14) := lib_hid (HG2.out.trans (HG13.out.trans (show Grows w13 w14 from hb14)))
  have HX14 : Hid (SB w14 (some ⟨xb, xo, none⟩) (m + 16) cx (sl ++ tg)) := lib_hid (HX13.out.grows (show Grows w13 w14 from hb14))
  have HH14 : Hid (SB w14 (some ⟨p13, 0, none⟩) 16 16 hh) := lib_hid (HH13.out.grows (show Grows w13 w14 from hb14))
  have HE14 : Hid (SB w14 (some ⟨p14, 0, none⟩) 16 16 ef) := by
    rw [← Hec.out] at hB14
    have := hB14.row (o := 0) (n := 16) (c := 16) (by omega) (by simp [efl.out]) (by unfold maxLen; omega)
    rw [List.drop_zero, List.take_of_length_le (by simp [efl.out])] at this
    exact lib_hid this
  have HTg : Hid (SB w14 (some ⟨xb, xo + m, none⟩) 16 (cx - m) tg) := by
    have := sb_partC HX14.out rfl m 16 (cx - m) (by omega) (by omega) (by omega)
    rw [List.drop_left' sll.out, List.take_of_length_le (by have := HX14.out.len; rw [List.length_append, sll.out] at this; omega)] at this
    exact lib_hid this
  have HXo : Hid (∀ W, Grows w14 W → Calls Try.prog 15 #[.slice (some ⟨p13, 0, none⟩) 16 16, .slice (some ⟨p14, 0, none⟩) 16 16] W (NewB 5 W tg)) := fun W hW => by
    rw [← Htg.out]; exact xor_any _ _ 16 16 16 16 hh ef W (HH14.out.grows hW) (HE14.out.grows hW) (by omega)
  have Hsx : Hid (∀ W, (Instr.slice 26 (.slice (some ⟨xb, xo, none⟩) (m + 16) cx) (some (.int .i64 (m : Int))) none none).run Try.prog W = .ok (.slice (some ⟨xb, xo + m, none⟩) 16 (cx - m)) W) := lib_hid (fun W => by
    have := run_sl_lE (P := Try.prog) Try.underlying26 Try.sizeByte xb xo (m + 16) cx m (m : Int) rfl (by omega) (by omega) W
    rw [show m + 16 - m = 16 by omega] at this
    exact this)
  have Hs13 : Hid (∀ W, Sem.run Try.prog (Instr.sliceAt 23 (.pointer (some ⟨p13, 0, none⟩)) none none none) W = .ok (.slice (some ⟨p13, 0, none⟩) 16 16) W) := fun W => slice_all16 p13 W
  have Hs14 : Hid (∀ W, Sem.run Try.prog (Instr.sliceAt 23 (.pointer (some ⟨p14, 0, none⟩)) none none none) W = .ok (.slice (some ⟨p14, 0, none⟩) 16 16) W) := fun W => slice_all16 p14 W
  clear hB14 hb14 hg14 HBz HG13 HX13 HH13 HEa Hec HX14 HEz HEf HFi HEn HK2 HIV Hs33 HSa HSb
  apply wp_region_mono 13 ((.is _, []) :: (.is _, []) :: (.is _, []) :: (.is _, []) :: (.is _, []) :: (.is _, []) :: (.is _, []) :: (.pr (fun v W => ∃ A n c, v = .slice A n c ∧ SB W A n c tg), []) :: (.is _, [7]) :: (.is _, []) :: (.is _, []) :: (.is (.bool true), []) :: (.is _, []) :: []) (by kernel_rfl) (by kernel_rfl)
  iterate 3
    apply Mono.is0
    · kernel_rfl
    · intro W hW
      go_wp2
      refine ⟨rfl, rfl, Grows.refl _, ?_⟩
      unfold Oper.valAt
      go_simp
      rfl
    intro k1 a1 hk1 ha1
    simp only [Nat.reduceAdd] at hk1
    simp only [Act.put, List.setIfInBounds_toArray, List.set_cons_succ, List.set_cons_zero] at ha1
    subst hk1 ha1
  apply Mono.is0
  · kernel_rfl
  · intro W hW
    have s1 := Hsx.out W
    go_wp2
    refine ⟨rfl, rfl, Grows.refl _, ?_⟩
    unfold Oper.valAt
    go_simp
    rfl
  intro k1 a1 hk1 ha1
  simp only [Nat.reduceAdd] at hk1
  simp only [Act.put, List.setIfInBounds_toArray, List.set_cons_succ, List.set_cons_zero] at ha1
  subst hk1 ha1
  apply Mono.is0
  · kernel_rfl
  · intro W hW
    have cv := run_string_SB (P := Try.prog) Try.underlying26 Try.underlying5 Try.underlying9 (HTg.out.grows hW)
    go_wp2
    refine ⟨rfl, rfl, Grows.refl _, ?_⟩
    unfold Oper.valAt
    go_simp
    rfl
  intro k1 a1 hk1 ha1
  simp only [Nat.reduceAdd] at hk1
  simp only [Act.put, List.setIfInBounds_toArray, List.set_cons_succ, List.set_cons_zero] at ha1
  subst hk1 ha1
  apply Mono.is0
  · kernel_rfl
  · intro W hW
    have s2 := Hs13.out W
    go_wp2
    refine ⟨rfl, rfl, Grows.refl _, ?_⟩
    unfold Oper.valAt
    go_simp
    rfl
  intro k1 a1 hk1 ha1
  simp only [Nat.reduceAdd] at hk1
  simp only [Act.put, List.setIfInBounds_toArray, List.set_cons_succ, List.set_cons_zero] at ha1
  subst hk1 ha1
  apply Mono.is0
  · kernel_rfl
  · intro W hW
    have s3 := Hs14.out W
    go_wp2
    refine ⟨rfl, rfl, Grows.refl _, ?_⟩
    unfold Oper.valAt
    go_simp
    rfl
  intro k1 a1 hk1 ha1
  simp only [Nat.reduceAdd] at hk1
  simp only [Act.put, List.setIfInBounds_toArray, List.set_cons_succ, List.set_cons_zero] at ha1
  subst hk1 ha1
  apply Mono.pr0
  · kernel_rfl
  · exact fun v W W' hW ⟨A, n, c, h1, h2⟩ => ⟨A, n, c, h1, h2.grows hW⟩
  · intro W hW 
    go_wp2_with fail
    refine (HXo.out W hW).mono ?_
    rintro e w1 ⟨A1, n1, c1, hn1, rfl, hg1, ho1⟩
    have HS1 := lib_hid (SB.own ho1)
    clear ho1 hn1
    go_wp2
    exact ⟨rfl, rfl, hg1, A1, n1, c1, rfl, HS1.out⟩
  intro v7
  intro k1 a1 hk1 ha1
  simp only [Nat.reduceAdd] at hk1
  simp only [Act.put, List.setIfInBounds_toArray, List.set_cons_succ, List.set_cons_zero] at ha1
  subst hk1 ha1
  apply Mono.is1
  · kernel_rfl
  · intro W hW f0
    obtain ⟨A1, n1, c1, rfl, hs⟩ := f0
    have cv := run_string_SB (P := Try.prog) Try.underlying26 Try.underlying5 Try.underlying9 hs
    go_wp2
    refine ⟨rfl, rfl, Grows.refl _, ?_⟩
    unfold Oper.valAt
    go_simp
    rfl
  intro k1 a1 hk1 ha1
  simp only [Nat.reduceAdd] at hk1
  simp only [Act.put, List.setIfInBounds_toArray, List.set_cons_succ, List.set_cons_zero] at ha1
  subst hk1 ha1
  iterate 2
    apply Mono.is0
    · kernel_rfl
    · intro W hW
      go_wp2
      refine ⟨rfl, rfl, Grows.refl _, ?_⟩
      unfold Oper.valAt
      go_simp
      rfl
    intro k1 a1 hk1 ha1
    simp only [Nat.reduceAdd] at hk1
    simp only [Act.put, List.setIfInBounds_toArray, List.set_cons_succ, List.set_cons_zero] at ha1
    subst hk1 ha1
  apply Mono.is0
  · kernel_rfl
  · intro W hW 
    go_wp2_with fail
    refine (awakeTop_any W).mono ?_
    rintro e w1 ⟨rfl, hg1⟩
    go_wp2
    exact ⟨rfl, rfl, hg1, rfl⟩
  intro k1 a1 hk1 ha1
  simp only [Nat.reduceAdd] at hk1
  simp only [Act.put, List.setIfInBounds_toArray, List.set_cons_succ, List.set_cons_zero] at ha1
  subst hk1 ha1
  apply Mono.is0
  · kernel_rfl
  · intro W hW
    go_wp2
    refine ⟨rfl, rfl, Grows.refl _, ?_⟩
    unfold Oper.valAt
    go_simp
    rfl
  intro k1 a1 hk1 ha1
  simp only [Nat.reduceAdd] at hk1
  simp only [Act.put, List.setIfInBounds_toArray, List.set_cons_succ, List.set_cons_zero] at ha1
  subst hk1 ha1
  refine Mono.done ?_
  intro wm hgm
  simp only [allF, List.drop_succ_cons, List.drop_zero]
  intro g7
  go_wp2
  go_ret
  exact ⟨rfl, HG14.out.trans hgm⟩
end Go.Proofs.Ythcmdjaccjghjaa
