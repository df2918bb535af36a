/-
  The walk of ShaWhole.
-/
import Derived.Test.YtgknojaaimefkaaDoorSha10
import Derived.Test.YtgknojaaimefkaaDoorArrEq
import Derived.Deep.Cut
import Derived.BigRegion
import Derived.RegionTactic
import Derived.Outline
namespace Go.Proofs.YtgknojaaimefkaaDoor
open Go Go.RowKit
set_option linter.unusedSimpArgs false


attribute [local irreducible] startV schedF moreW firstW blockF roundsF sumsF outF outW padS sumS shaK
/-- m of 64 bytes from the i-th on, copied. -/
def copyP (al : List UInt8) (i : Nat) : Nat → List UInt8
  | 0 => List.replicate 64 0
  | m + 1 => (copyP al i m).set m (al.getD (i + m) 0)
theorem copyP_len (al : List UInt8) (i m : Nat) : (copyP al i m).length = 64 := by
  induction m with
  | zero => rfl
  | succ m ih => simp [copyP, ih]
theorem copyP_at (al : List UInt8) (i m j : Nat) (hm : m ≤ 64) (hj : j < m) : (copyP al i m)[j]? = some (al.getD (i + j) 0) := by
  induction m with
  | zero => omega
  | succ m ih =>
    rw [copyP, List.getElem?_set]
    by_cases h : m = j
    · subst h; rw [if_pos rfl, if_pos (by rw [copyP_len]; omega)]
    · rw [if_neg h]; exact ih (by omega) (by omega)
theorem copyP_all (al : List UInt8) (i : Nat) (h : i + 64 ≤ al.length) : copyP al i 64 = (al.drop i).take 64 := by
  apply List.ext_getElem?
  intro j
  by_cases hj : j < 64
  · rw [copyP_at al i 64 j (by omega) hj, List.getElem?_take, if_pos hj, List.getElem?_drop, List.getD_eq_getElem?_getD, List.getElem?_eq_getElem (by omega)]
    rfl
  · rw [List.getElem?_eq_none (by rw [copyP_len]; omega), List.getElem?_take, if_neg hj]
theorem sb_cellW {W : World} {bk off n c : Nat} {xs : List UInt8} (h : SB W (some ⟨bk, off, none⟩) n c xs) (q : Nat) (hq : q < n) : W.cell? ⟨bk, off + q, none⟩ = some (.int .u8 ((xs.getD q 0).toNat : Int)) := by
  obtain ⟨b', off', e', _, hc'⟩ := h.2.2.2.2 (by omega)
  cases e'
  have hl : xs.length = n := SB.len h
  rw [hc' q hq, List.getElem?_map, List.getElem?_eq_getElem (by omega), List.getD_eq_getElem?_getD, List.getElem?_eq_getElem (by omega)]
  rfl
theorem cell8W {w : World} {g : Nat} {t : TypeId} {xs : List UInt8} (h : Blk w g t (xs.map b8).toArray) (i : Nat) (hi : i < xs.length) : w.cell? ⟨g, i, none⟩ = some (.int .u8 ((xs.getD i 0).toNat : Int)) := by
  rw [h.cell]
  simp only [List.getElem?_toArray, List.getElem?_map]
  rw [List.getElem?_eq_getElem hi, List.getD_eq_getElem?_getD, List.getElem?_eq_getElem hi]
  rfl
theorem blk_set8W {w : World} {g : Nat} {t : TypeId} {ws : List UInt8} (h : Blk w g t (ws.map b8).toArray) (i : Nat) (x : UInt8) : Blk (w.setCell ⟨g, i, none⟩ (b8 x)) g t ((ws.set i x).map b8).toArray := by
  have := h.set i (b8 x)
  rw [List.map_set]
  simpa using this
theorem Tryd.arr32B : Tryd.prog.underlying 24 = some (.array 32 5) := by kernel_rfl
theorem padS_all (n : Nat) : ∃ k, n + (padS n).length = 64 * k := ⟨(n + (padS n).length) / 64, by rw [padS_len]; unfold padZ; omega⟩
set_option maxRecDepth 100000 in
set_option maxHeartbeats 4000000 in
theorem walk_ShaWhole {tK : TypeId} (A : Option Addr) (n c : Nat) (bs : List UInt8) (w : World) (HK : Hid (Blk w 0 tK (shaK.map b32).toArray)) (hs : SB w A n c bs) : Calls Tryd.prog 6 #[.slice A n c] w fun e w' => e = .returned (.bool true) ∧ Grows w w' := by
  by_cases hn : n ≤ 1000
  · have hni : ¬ (n : Int) > 1000 := by omega
    have hle : (n : Int) ≤ 1000 := by omega
    have Hn := lib_hid hn
    obtain ⟨ps, Hps, psl⟩ : ∃ ps, Hid (padS n = ps) ∧ Hid (ps.length ≤ 72) := ⟨_, lib_hid rfl, by unfold Hid; rw [padS_len]; unfold padZ; omega⟩
    obtain ⟨nb, Hnb⟩ : ∃ k, Hid (n + ps.length = 64 * k) := by rw [← Hps.out]; exact padS_all n
    have Hlen := lib_hid hs.len
    have HS := lib_hid hs
    have HS0b := lib_hid hs
    have hoE := World.ownsRow_lit (base := w.heap.size) (e := 5) (size := 1) w #[] 0 (Nat.le_refl _) (by unfold maxLen; omega) rfl
    have HE := lib_hid hoE
    have hrE : Hid (SB (w.alloc (.cells #[] 5)) A n c bs) := hs.grows ((Grows.refl w).alloc _)
    clear hs hoE hn
    go_enter Tryd.func6, Tryd.ntmps6
    go_wp2_with (at_builtin; refine wpList_append rfl _ _ 22 rfl w.heap.size 5 (.int .u8 0) 1 Tryd.underlying22 Tryd.infoByte rfl _ 0 [] rfl HE.out A n c (bs.map b8) rfl hrE.out (b8_one bs) (by have := Hn.out; omega) (by omega) (by simp) ?_; intro A3 c3 w3 ho3 hb3 hg3)
    have Hg3 : Hid (Grows w w3) := Below.trans ((Grows.refl w).alloc _) hb3
    have HO3 : Hid (w3.ownsRow w.heap.size 5 1 (.slice A3 n c3) n (bs.map b8)) := by rw [Nat.zero_add, List.nil_append] at ho3; exact ho3
    clear ho3 hb3 hg3 hrE HE
    refine (pad_any n (by have := Hn.out; omega) w3).mono ?_
    rintro e4 w4 ⟨A4, n4, c4, hn4, rfl, hg4, ho4⟩
    have HS4 : Hid (SB w4 A4 n4 c4 ps) := by rw [← Hps.out]; exact SB.own ho4
    have HO4 := lib_hid (own_grows HO3.out hg4)
    have Hg4 : Hid (Grows w w4) := Hg3.out.trans hg4
    have Hn4 : Hid (n4 = ps.length) := by rw [← Hps.out]; exact hn4
    clear hn4 ho4 hg4 HO3 Hg3
    go_upto_region 4 with (at_builtin; refine wpList_append rfl _ _ 22 rfl w.heap.size 5 (.int .u8 0) 1 Tryd.underlying22 Tryd.infoByte rfl (.slice A3 n c3) n _ rfl HO4.out A4 n4 c4 (ps.map b8) rfl HS4.out (b8_one ps) (by have := Hn.out; have := Hn4.out; have := psl.out; omega) (by omega) Hg4.out.le ?_; intro A5 c5 w5 ho5 hb5 hg5)
    obtain ⟨L, HL⟩ : ∃ L, Hid (n + n4 = L) := ⟨_, lib_hid rfl⟩
    have HL64 : Hid (L = 64 * nb) := by rw [← HL.out, Hn4.out]; exact Hnb
    have hr : (L : Int).tmod 64 = 0 := by rw [Int.tmod_eq_emod_of_nonneg (by omega)]; have := HL64.out; omega
    have HLb : Hid (L ≤ 2000) := by have := HL.out; have := Hn.out; have := Hn4.out; have := psl.out; unfold Hid; omega
    obtain ⟨al, Hal⟩ : ∃ al, Hid (bs ++ ps = al) := ⟨_, lib_hid rfl⟩
    have HS5 : Hid (SB w5 A5 L c5 al) := by rw [← List.map_append, Hal.out, HL.out] at ho5; exact SB.own ho5
    have Hg5 : Hid (Grows w w5) := Below.trans Hg4.out hb5
    have hLb := HLb.out
    rw [HL.out]
    clear ho5 hb5 hg5 HO4 Hg4 HS4
    obtain ⟨hc, Hhc, hcl, hc1⟩ : ∃ hc : Array Value, Hid ((startV.list.map b32).toArray = hc) ∧ hc.size = 8 ∧ hc.all (·.oneCell') = true := ⟨_, lib_hid rfl, rfl, b32_one _⟩
    have HST : Hid (Calls Tryd.prog 17 #[] w5 fun e w' => e = .returned (.agg hc) ∧ Grows w5 w') := by
      have h5 := start_any w5
      rw [← startV_list, Hhc.out] at h5
      exact h5
    go_wp2_with fail
    refine HST.out.mono ?_
    rintro e6 w6 ⟨rfl, hg6⟩
    have Hg6 : Hid (Grows w w6) := Hg5.out.trans hg6
    have HS6 := lib_hid (HS5.out.grows hg6)
    have HN6 : Hid (Blk (w6.alloc (.cells #[Value.int .u32 0, Value.int .u32 0, Value.int .u32 0, Value.int .u32 0, Value.int .u32 0, Value.int .u32 0, Value.int .u32 0, Value.int .u32 0] 30)) w6.heap.size 30 #[Value.int .u32 0, Value.int .u32 0, Value.int .u32 0, Value.int .u32 0, Value.int .u32 0, Value.int .u32 0, Value.int .u32 0, Value.int .u32 0]) := Blk.new _ _ _
    have Hle6 := lib_hid Hg6.out.le
    clear HST hg6 HS5 Hg5
    go_upto_region 7 with (refine wpList_store_blk rfl _ _ _ rfl w6.heap.size hc rfl rfl 30 _ HN6.out (by rw [Tryd.size8, hcl]) (by rw [hcl]; rfl) hc1 w6.heap.size w6 ((Grows.refl w6).alloc _) (Nat.le_refl _) ?_; intro w7 H7 hb7 hg7)
    obtain ⟨gh, Hgh⟩ : ∃ x, Hid (w6.heap.size = x) := ⟨_, lib_hid rfl⟩
    rw [Hgh.out] at H7 ⊢
    have HA5 : Hid (0 < L → ∀ p, A5 = some p → p.block < gh) := fun h0 p hp => by
      obtain ⟨b', off', e', hb', _⟩ := HS6.out.2.2.2.2 h0
      rw [hp] at e'
      cases e'
      rw [← Hgh.out]
      exact hb'
    have Hghl : Hid (w.heap.size ≤ gh) := by rw [← Hgh.out]; exact Hle6
    have Hg67 : Hid (Grows w6 w7) := hb7
    have Hg7 : Hid (Grows w w7) := Hg6.out.trans hb7
    have HS7 := lib_hid (HS6.out.grows hb7)
    have HH7 : Hid (Blk w7 gh 30 (startV.list.map b32).toArray) := by rw [← Hhc.out] at H7; exact H7
    obtain ⟨ks, Hks, Hkl⟩ : ∃ ks, Hid (ks = shaK) ∧ Hid (ks.length = 64) := ⟨_, lib_hid rfl, lib_hid shaK_len⟩
    rw [← Hks.out] at HK
    have HK7 := lib_hid (HK.out.grows Hg7.out)
    obtain ⟨FIN, HFIN⟩ : ∃ x, Hid (runF ks startV al = x) := ⟨_, lib_hid rfl⟩
    have HF0 : Hid (runF ks startV (al.drop 0) = FIN) := HFIN
    obtain ⟨V0, HV0⟩ : ∃ x, Hid (startV = x) := ⟨_, lib_hid rfl⟩
    rw [HV0.out] at HF0 HH7
    have Hall : Hid (al.length = L) := HS7.out.len
    have Hhw : Hid (w.heap.size ≤ gh ∧ 0 < w.heap.size) := ⟨Hghl.out, Nat.lt_of_le_of_lt (Nat.zero_le _) HK.out.lt⟩
    clear H7 hb7 hg7 HN6 Hle6 HS6 Hg6 Hhc hcl hc1 Hg67 hr hni hle hLb
    go_wp2
    go_loopw [5] (fun v wr => ∃ (k i : Nat) (H : V8), Hid (i = 64 * k) ∧ i ≤ L ∧ v = .int .i64 (i : Int) ∧ Hid (Grows w wr) ∧ Hid (SB wr A5 L c5 al) ∧ Hid (Blk wr gh 30 (H.list.map b32).toArray) ∧ Hid (runF ks H (al.drop i) = FIN)) (fun v _ => L - (intOf v).toNat)
    case atStart => exact ⟨0, 0, V0, lib_hid rfl, by omega, rfl, Hg7, HS7, HH7, HF0⟩
    case round =>
      clear Hg7 HS7 HH7 HF0
      obtain ⟨k, i, H, Hik, hiL, rfl, Hgr, HS, HH, HF⟩ := hrel
      by_cases hlt : i < L
      · have hki : (i : Int) < L := by omega
        have Hi64 : Hid (i + 64 ≤ L) := by have := Hik.out; have := HL64.out; unfold Hid; omega
        go_upto_region 11 with fail
        obtain ⟨bk, off, eA, hbk, _⟩ := HS.out.2.2.2.2 (by omega)
        subst eA
        obtain ⟨gx, Hgx⟩ : ∃ x, Hid (wr.heap.size = x) := ⟨_, lib_hid rfl⟩
        obtain ⟨Wx, HWx⟩ : ∃ W : World, Hid (W = wr.alloc (.cells #[.int .u8 0, .int .u8 0, .int .u8 0, .int .u8 0, .int .u8 0, .int .u8 0, .int .u8 0, .int .u8 0, .int .u8 0, .int .u8 0, .int .u8 0, .int .u8 0, .int .u8 0, .int .u8 0, .int .u8 0, .int .u8 0, .int .u8 0, .int .u8 0, .int .u8 0, .int .u8 0, .int .u8 0, .int .u8 0, .int .u8 0, .int .u8 0, .int .u8 0, .int .u8 0, .int .u8 0, .int .u8 0, .int .u8 0, .int .u8 0, .int .u8 0, .int .u8 0, .int .u8 0, .int .u8 0, .int .u8 0, .int .u8 0, .int .u8 0, .int .u8 0, .int .u8 0, .int .u8 0, .int .u8 0, .int .u8 0, .int .u8 0, .int .u8 0, .int .u8 0, .int .u8 0, .int .u8 0, .int .u8 0, .int .u8 0, .int .u8 0, .int .u8 0, .int .u8 0, .int .u8 0, .int .u8 0, .int .u8 0, .int .u8 0, .int .u8 0, .int .u8 0, .int .u8 0, .int .u8 0, .int .u8 0, .int .u8 0, .int .u8 0, .int .u8 0] 31)) := ⟨_, lib_hid rfl⟩
        have hgx : Hid (Grows wr Wx) := by unfold Hid; rw [HWx.out]; exact (Grows.refl wr).alloc _
        have HX0 : Hid (Blk Wx gx 31 ((copyP al i 0).map b8).toArray) := by
          unfold Hid; rw [HWx.out, ← Hgx.out]; exact Blk.new wr 31 #[.int .u8 0, .int .u8 0, .int .u8 0, .int .u8 0, .int .u8 0, .int .u8 0, .int .u8 0, .int .u8 0, .int .u8 0, .int .u8 0, .int .u8 0, .int .u8 0, .int .u8 0, .int .u8 0, .int .u8 0, .int .u8 0, .int .u8 0, .int .u8 0, .int .u8 0, .int .u8 0, .int .u8 0, .int .u8 0, .int .u8 0, .int .u8 0, .int .u8 0, .int .u8 0, .int .u8 0, .int .u8 0, .int .u8 0, .int .u8 0, .int .u8 0, .int .u8 0, .int .u8 0, .int .u8 0, .int .u8 0, .int .u8 0, .int .u8 0, .int .u8 0, .int .u8 0, .int .u8 0, .int .u8 0, .int .u8 0, .int .u8 0, .int .u8 0, .int .u8 0, .int .u8 0, .int .u8 0, .int .u8 0, .int .u8 0, .int .u8 0, .int .u8 0, .int .u8 0, .int .u8 0, .int .u8 0, .int .u8 0, .int .u8 0, .int .u8 0, .int .u8 0, .int .u8 0, .int .u8 0, .int .u8 0, .int .u8 0, .int .u8 0, .int .u8 0]
        have Hx0 : Hid (w.heap.size ≤ gx ∧ bk ≠ gx ∧ gh ≠ gx) := by have := Hgr.out.le; have := HH.out.lt; have := Hgx.out; unfold Hid; omega
        have HS0 := lib_hid (HS.out.grows hgx.out)
        have HH0 := lib_hid (HH.out.grows hgx.out)
        have Hg0 : Hid (Grows w Wx) := Hgr.out.trans hgx.out
        rw [← HWx.out, Hgx.out]
        have Hlt := lib_hid hlt
        have HiL := lib_hid hiL
        clear HWx hgx HS HH Hgr hbk hlt hiL hki
        go_wp2
        go_loopw [7] (fun v wq => ∃ m : Nat, m ≤ 64 ∧ v = .int .i64 (m : Int) ∧ Hid (Grows w wq) ∧ Hid (SB wq (some ⟨bk, off, none⟩) L c5 al) ∧ Hid (Blk wq gh 30 (H.list.map b32).toArray) ∧ Hid (Blk wq gx 31 ((copyP al i m).map b8).toArray)) (fun v _ => 64 - (intOf v).toNat)
        case atStart => exact ⟨0, by omega, rfl, Hg0, HS0, HH0, HX0⟩
        case round =>
          clear Hg0 HS0 HH0 HX0
          obtain ⟨m, hm, rfl, Hgr, HS, HH, HX⟩ := hrel
          by_cases hlt : m < 64
          · have hkm : (m : Int) < 64 := by omega
            obtain ⟨q, hq, Hq, hqb⟩ : ∃ q : Nat, (i : Int) + (m : Int) = (q : Int) ∧ Hid (i + m = q) ∧ (q : Int) < L := ⟨i + m, by omega, lib_hid rfl, by have := Hi64.out; omega⟩
            obtain ⟨x, Hx⟩ : ∃ x, Hid (al.getD q 0 = x) := ⟨_, lib_hid rfl⟩
            have hq2 : (q : Int) ≤ 2000 := by have := HLb.out; omega
            have cx := sb_cellW HS.out q (by omega)
            rw [Hx.out] at cx
            have cz := cell8W HX.out m (by rw [copyP_len]; exact hlt)
            have fz := HX.out.frozen m
            have HX3 := lib_hid (blk_set8W HX.out m x)
            have Hset : Hid ((copyP al i m).set m x = copyP al i (m + 1)) := by unfold Hid; rw [copyP, Hq.out, Hx.out]
            rw [Hset.out] at HX3
            have HH3 := lib_hid (HH.out.far (p := ⟨gx, m, none⟩) Hx0.out.2.2 (b8 x))
            have HS3 : Hid (SB (wr.setCell ⟨gx, m, none⟩ (b8 x)) (some ⟨bk, off, none⟩) L c5 al) := Row.keeps HS.out (keeps_set wr ⟨gx, m, none⟩ _) (fun p hp e => by cases hp; exact Hx0.out.2.1 e)
            have Hg3 : Hid (Grows w (wr.setCell ⟨gx, m, none⟩ (b8 x))) := Hgr.out.setCell (p := ⟨gx, m, none⟩) Hx0.out.1 _
            have hzw : gx < wr.heap.size := HX.out.lt
            clear HS HH HX Hgr
            go_wp2
            go_roundw
            case rel => exact ⟨m + 1, by omega, by go_num, Hg3, HS3, HH3, HX3⟩
            case measure => simp [intOf]; omega
          · have hkm : ¬ (m : Int) < 64 := by omega
            have hm64 : m = 64 := by omega
            subst hm64
            have Halen : Hid (i + 64 ≤ al.length) := by unfold Hid; rw [Hall.out]; exact Hi64.out
            have HX6 : Hid (Blk wr gx 31 (((al.drop i).take 64).map b8).toArray) := by rw [← copyP_all al i Halen.out]; exact HX
            obtain ⟨tk, Htk, htl⟩ : ∃ t, Hid ((al.drop i).take 64 = t) ∧ Hid (t.length = 64) := ⟨_, lib_hid rfl, by have := Halen.out; unfold Hid; rw [List.length_take, List.length_drop]; omega⟩
            rw [Htk.out] at HX6
            obtain ⟨xc, Hxc, xcl⟩ : ∃ x : Array Value, Hid ((tk.map b8).toArray = x) ∧ Hid (x.size = 64) := ⟨_, lib_hid rfl, by unfold Hid; simp [htl.out]⟩
            rw [Hxc.out] at HX6
            obtain ⟨ha, Hha, hal⟩ : ∃ x : Array Value, Hid ((H.list.map b32).toArray = x) ∧ Hid (x.size = 8) := ⟨_, lib_hid rfl, lib_hid rfl⟩
            rw [Hha.out] at HH
            obtain ⟨V2, HV2⟩ : ∃ x, Hid (blockF ks H tk = x) := ⟨_, lib_hid rfl⟩
            obtain ⟨hb, Hhb, hbl, hb1⟩ : ∃ x : Array Value, Hid ((V2.list.map b32).toArray = x) ∧ Hid (x.size = 8) ∧ Hid (x.all (·.oneCell') = true) := ⟨_, lib_hid rfl, lib_hid rfl, lib_hid (b32_one _)⟩
            have HCb : Hid (Calls Tryd.prog 13 #[.agg ha, .agg xc] wr fun e w' => e = .returned (.agg hb) ∧ Grows wr w') := by
              have h5 := block_any ks Hkl.out H tk wr htl.out (HK.out.grows Hgr.out)
              rw [HV2.out, show H.vals = ha from Hha.out, show V2.vals = hb from Hhb.out, Hxc.out] at h5
              exact h5
            have HF2 : Hid (runF ks V2 (al.drop (i + 64)) = FIN) := by
              have h5 := HF.out
              rw [runF_step ks H _ (by have := Halen.out; rw [List.length_drop]; omega), Htk.out, HV2.out, List.drop_drop] at h5
              exact h5
            clear HX hlt HF HV2 Hha Hxc Htk
            go_upto_region 15 with fail
            clear hkm
            go_wp2_with (first
              | (refine wpList_load_blk rfl _ _ rfl gh rfl _ ha _ HH.out rfl rfl (by rw [Tryd.size8, hal.out]) ?_)
              | (refine wpList_load_blk rfl _ _ rfl gx rfl _ xc _ HX6.out rfl rfl (by rw [Tryd.size64B, xcl.out]) ?_))
            refine HCb.out.mono ?_
            rintro e8 w8 ⟨rfl, hg8⟩
            have HH8 := lib_hid (HH.out.grows hg8)
            have HS8 := lib_hid (HS.out.grows hg8)
            have Hg8 : Hid (Grows w w8) := Hgr.out.trans hg8
            clear HH HS Hgr HX6 HCb hg8
            have hib : (i : Int) ≤ 2000 := by have := HLb.out; have := Hi64.out; omega
            have Hbkh : Hid (bk ≠ gh) := by have := HA5.out (by have := Hi64.out; omega) _ rfl; unfold Hid; simp at this; omega
            go_wp2_with (refine wpList_store_blk rfl _ _ _ rfl gh hb rfl rfl 30 _ HH8.out (by rw [Tryd.size8, hbl.out]) (by rw [hal.out, hbl.out]) hb1.out w.heap.size w Hg8.out Hhw.out.1 ?_; intro w9 H9 hb9 hg9; have HG9 : Hid (Grows w w9) := hb9; have HS9 : Hid (SB w9 (some ⟨bk, off, none⟩) L c5 al) := Row.keeps HS8.out (keeps_grown hg9) (fun p hp e => Hbkh.out (by cases hp; exact (Option.some.inj e).symm)); have HB9 : Hid (Blk w9 gh 30 (V2.list.map b32).toArray) := (by rw [← Hhb.out] at H9; exact H9); clear hb9 hg9)
            go_roundw
            case rel => exact ⟨k + 1, i + 64, V2, by have := Hik.out; unfold Hid; omega, by have := Hi64.out; omega, by go_num, HG9, HS9, HB9, HF2⟩
            case measure => have := Hi64.out; simp [intOf]; omega
      · have hki : ¬ (i : Int) < L := by omega
        have hiE : i = L := by omega
        have HFe : Hid (FIN = (H, [])) := by
          have h5 := HF.out
          rw [hiE, List.drop_of_length_le (by rw [Hall.out]; omega), runF_end ks H [] (by simp)] at h5
          exact h5.symm
        have HSu : Hid (sumS ks bs = outF H) := by
          unfold Hid sumS
          have h5 := HFIN.out
          rw [HFe.out, ← Hal.out, ← Hps.out, ← Hlen.out] at h5
          rw [h5]
        obtain ⟨ha, Hha, hal⟩ : ∃ x : Array Value, Hid ((H.list.map b32).toArray = x) ∧ Hid (x.size = 8) := ⟨_, lib_hid rfl, lib_hid rfl⟩
        rw [Hha.out] at HH
        obtain ⟨os, Hos, osl⟩ : ∃ x : List UInt8, Hid (outF H = x) ∧ Hid (x.length = 32) := ⟨_, lib_hid rfl, lib_hid (outF_len H)⟩
        have HCo : Hid (Calls Tryd.prog 15 #[.agg ha] wr fun e w' => e = .returned (.agg (os.map b8).toArray) ∧ Grows wr w') := by
          have h5 := out_any H wr
          rw [show H.vals = ha from Hha.out, Hos.out] at h5
          exact h5
        have HCs : Hid (∀ W, Grows w W → Calls Tryd.prog 10 #[.slice A n c] W fun e w' => e = .returned (.agg (os.map b8).toArray) ∧ Grows W w') := fun W hW => by
          have h5 := shaSum_any ks A n c bs W Hkl.out (HK.out.grows hW) (Row.grows HS0b.out hW) (by have := Hn.out; omega)
          rw [HSu.out, Hos.out] at h5
          exact h5
        have HCa : Hid (∀ W, Grows w W → Calls Tryd.prog 12 #[] W fun e w' => e = .returned (.bool true) ∧ Grows W w') := fun W hW => awake2_any W (by have h5 := HK.out.grows hW; rw [Hks.out] at h5; exact h5)
        have he : ∀ W, (Op.equalIn 10000 24 (.agg (os.map b8).toArray) (.agg (os.map b8).toArray)).run Tryd.prog W = .ok true W := fun W => (run_equalIn_bytes W 9998 24 5 32 os os osl.out osl.out Tryd.arr32B Tryd.underlying5 Tryd.sizeByte).trans (by rw [beq_self_eq_true])
        clear HF HFe HSu HFIN hlt hiE hiL HS Hks HK Hha Hos
        go_wp2_with (refine wpList_load_blk rfl _ _ rfl gh rfl _ ha _ HH.out rfl rfl (by rw [Tryd.size8, hal.out]) ?_)
        refine HCo.out.mono ?_
        rintro e8 w8 ⟨rfl, hg8⟩
        have Hg8 : Hid (Grows w w8) := Hgr.out.trans hg8
        clear HH HCo Hgr hg8
        go_wp2_with fail
        refine (HCs.out _ Hg8.out).mono ?_
        rintro e9 w9 ⟨rfl, hg9⟩
        have Hg9 : Hid (Grows w w9) := Hg8.out.trans hg9
        clear hg9 Hg8 HCs
        go_wp2_with fail
        refine (HCa.out _ Hg9.out).mono ?_
        rintro e10 w10 ⟨rfl, hg10⟩
        go_wp2
        go_ret
        exact ⟨rfl, Hg9.out.trans hg10⟩
  · have hni : (n : Int) > 1000 := by omega
    clear hs HK hn
    go_enter Tryd.func6, Tryd.ntmps6
    go_wp2
    go_ret
    exact ⟨rfl, Grows.refl _⟩

end Go.Proofs.YtgknojaaimefkaaDoor
