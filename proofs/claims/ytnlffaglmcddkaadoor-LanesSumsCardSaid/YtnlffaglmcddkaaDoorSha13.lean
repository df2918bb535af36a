/-
  The walks of palfreyref02.Padded, Out, Sum.
-/
import Derived.Test.YtnlffaglmcddkaaDoorSha12
import Derived.Deep.Cut
import Derived.BigRegion
import Derived.RegionTactic
import Derived.Outline
namespace Go.Proofs.YtnlffaglmcddkaaDoor
open Go Go.RowKit
set_option linter.unusedSimpArgs false


attribute [local irreducible] startV schedF moreW firstW blockF roundsF sumsF outF outW padS sumS shaK wF
theorem one_rowS (w : World) (t : TypeId) (u : UInt8) : SB (w.alloc (.cells #[b8 u] t)) (some ⟨w.heap.size, 0, none⟩) 1 1 [u] := by
  have := (Blk.new w t #[b8 u]).row (o := 0) (n := 1) (c := 1) (Nat.le_refl _) (by simp) (by unfold maxLen; omega)
  exact this
def lenS : Value → Nat | .slice _ n _ => n | _ => 0
theorem padS_eq (n : Nat) (k : Nat) (hk : k = padZ n) (y : UInt64) (hy : 8 * UInt64.ofNat n = y) : padS n = (128 :: List.replicate k 0) ++ putBigF y 8 := by
  subst hk hy; unfold padS; rfl
set_option maxRecDepth 100000 in
set_option maxHeartbeats 4000000 in
theorem refPadded2_any (bs : List UInt8) (A : Option Addr) (l c : Nat) (w : World) (hs : SB w A l c bs) (hl : l ≤ 1000000) :
    Calls Tryd.prog 27 #[.slice A l c] w (NewB 5 w (bs ++ padS l)) := by
  have ho := World.ownsRow_lit (base := w.heap.size) (e := 5) (size := 1) w #[] 0 (Nat.le_refl _) (by unfold maxLen; omega) rfl
  have hr := hs.grows ((Grows.refl w).alloc (.cells #[] 5))
  have HH := lib_hid (And.intro hr ho)
  have hbl := lib_hid hs.len
  have HP : Hid (padZ l < 64 ∧ (l + 1 + padZ l) % 64 = 56 ∧ ∀ k, k ≤ padZ l → (l + 1 + k) % 64 = 56 → k = padZ l) := by unfold Hid padZ; refine ⟨by omega, by omega, fun k h1 h2 => by omega⟩
  obtain ⟨x, Hx, hx⟩ : ∃ x : UInt64, Hid (UInt64.ofNat l = x) ∧ Hid (IntKind.u64.wrap (l : Int) = (x.toNat : Int)) := ⟨_, lib_hid rfl, lib_hid (u64_wrap_nat l)⟩
  obtain ⟨y, Hy, hy⟩ : ∃ y : UInt64, Hid (8 * x = y) ∧ Hid (IntKind.u64.wrap ((x.toNat : Int) * 8) = (y.toNat : Int)) := ⟨_, lib_hid rfl, by unfold Hid; rw [Int.mul_comm]; exact u64_wrap_mul 8 x⟩
  have HPs : Hid (padS l = (128 :: List.replicate (padZ l) 0) ++ putBigF y 8) := padS_eq l _ rfl y (by rw [Hx.out, Hy.out])
  clear ho hr hs
  go_enter Tryd.func27, Tryd.ntmps27
  go_upto_region 2 with (at_builtin; refine wpList_append rfl _ _ 28 rfl w.heap.size 5 (.int .u8 0) 1 Tryd.underlying28 Tryd.infoByte rfl _ 0 [] rfl HH.out.2 _ _ _ (bs.map b8) rfl HH.out.1 (b8_one bs) (by omega) (by omega) (by simp) ?_; intro A3 c3 w3 ho3 hb3 hg3)
  simp only [Nat.zero_add, List.nil_append] at ho3
  have hgw : Grows w w3 := Below.trans ((Grows.refl w).alloc (.cells #[] 5)) hb3
  have HO' := lib_hid (own_grows ho3 ((Grows.refl w3).alloc (.cells #[.int .u8 128] 5)))
  have H1 := lib_hid (one_rowS w3 5 128)
  have hle := hgw.le
  clear HH ho3 hb3 hg3
  try simp only [Nat.zero_add]
  go_upto_region 3 with (at_builtin; refine wpList_append rfl _ _ 28 rfl w.heap.size 5 (.int .u8 0) 1 Tryd.underlying28 Tryd.infoByte rfl _ l _ rfl HO'.out _ _ _ ([(128 : UInt8)].map b8) rfl H1.out (b8_one [128]) (by omega) (by omega) (by simp; omega) ?_; intro A4 c4 w4 ho4 hb4 hg4)
  have hgw4 : Grows w w4 := Below.trans (hgw.alloc (.cells #[.int .u8 128] 5)) hb4
  have HO4 : Hid (w4.ownsRow w.heap.size 5 1 (.slice A4 (l + 1) c4) (l + 1) ((bs ++ 128 :: List.replicate 0 0).map b8)) := by
    unfold Hid
    rw [List.replicate_zero, List.map_append]
    exact ho4
  clear ho4 hb4 hg4 HO' H1 hle hgw
  obtain ⟨l1, Hl1⟩ : ∃ x, Hid (l + 1 = x) := ⟨_, lib_hid rfl⟩
  rw [Hl1.out] at HO4 ⊢
  go_loopw [3] (fun v wr => ∃ (k n : Nat) (C : Option Addr) (e : Nat), k ≤ padZ l ∧ Hid (n = l + 1 + k) ∧ v = .slice C n e ∧ Grows w wr ∧ Hid (wr.ownsRow w.heap.size 5 1 (.slice C n e) n ((bs ++ 128 :: List.replicate k 0).map b8))) (fun v _ => (l + 65) - lenS v)
  case atStart => exact ⟨0, l1, A4, c4, Nat.zero_le _, Hl1.out.symm, rfl, hgw4, HO4⟩
  case round =>
    clear HO4 hgw4
    obtain ⟨k, n, C, e, hk, Hn, rfl, hgr, HO⟩ := hrel
    have hnb : n ≤ 1000066 := by have := HP.out.1; have := Hn.out; omega
    have Hk := lib_hid hk
    obtain ⟨r, hr, Hr, hr64⟩ : ∃ r : Nat, (n : Int).tmod 64 = (r : Int) ∧ Hid (n % 64 = r) ∧ (r : Int) < 64 := ⟨n % 64, by rw [Int.tmod_eq_emod_of_nonneg (by omega)]; omega, lib_hid rfl, by omega⟩
    clear hk
    by_cases h0 : r = 56
    · have Hke : Hid (k = padZ l) := HP.out.2.2 k Hk.out (by have := Hr.out; have := Hn.out; omega)
      have h0' : (r : Int) = 56 := by omega
      rw [h0'] at hr
      have hle := hgr.le
      have q1 := hx.out
      have q2 := hy.out
      go_wp2_with fail
      refine (refPutBig_any y 8 wr (by omega)).mono ?_
      rintro e5 w5 ⟨A5, n5, c5, hn5, rfl, hg5, ho5⟩
      have HS5 := lib_hid (SB.own ho5)
      have HO5 := lib_hid (own_grows HO.out hg5)
      have hn8 : n5 = 8 := by rw [hn5.out]; exact putBigF8 _
      have hgr5 := hgr.trans hg5
      have hle5 := hgr5.le
      clear ho5 hn5 hg5 HO hgr hle q1 q2 hr
      subst hn8
      go_wp2_with (at_builtin; refine wpList_append rfl _ _ 28 rfl w.heap.size 5 (.int .u8 0) 1 Tryd.underlying28 Tryd.infoByte rfl _ n _ rfl HO5.out A5 8 c5 ((putBigF y 8).map b8) rfl HS5.out (b8_one _) (by omega) (by omega) hle5 ?_; intro A6 c6 w6 ho6 hb6 hg6)
      go_ret
      rw [← List.map_append, List.append_assoc, Hke.out, ← HPs.out] at ho6
      exact newB_mk rfl (by rw [List.length_append, padS_len, hbl.out, Hn.out, Hke.out]; omega) (Below.trans hgr5 hb6) ho6
    · have h0' : ¬ (r : Int) = 56 := by omega
      have hk1 : k + 1 ≤ padZ l := by
        have h1 : k ≠ padZ l := fun e => by
          have h2 := HP.out.2.1
          have := Hr.out
          have := Hn.out
          rw [← e] at h2
          omega
        have := Hk.out
        omega
      have HO' := lib_hid (own_grows HO.out ((Grows.refl wr).alloc (.cells #[.int .u8 0] 5)))
      have H1 := lib_hid (one_rowS wr 5 0)
      have hle := hgr.le
      have hmx := own_max HO.out
      clear HO h0
      go_wp2_with (at_builtin; refine wpList_append rfl _ _ 28 rfl w.heap.size 5 (.int .u8 0) 1 Tryd.underlying28 Tryd.infoByte rfl _ n _ rfl HO'.out _ _ _ ([(0 : UInt8)].map b8) rfl H1.out (b8_one [0]) (by omega) (by omega) (by simp; omega) ?_; intro A4 c4 w4 ho4 hb4 hg4)
      have hgr4 : Grows w w4 := Below.trans (hgr.alloc (.cells #[.int .u8 0] 5)) hb4
      have HO4 : Hid (w4.ownsRow w.heap.size 5 1 (.slice A4 (n + 1) c4) (n + 1) ((bs ++ 128 :: List.replicate (k + 1) 0).map b8)) := by
        unfold Hid
        have e : bs ++ 128 :: List.replicate (k + 1) 0 = (bs ++ 128 :: List.replicate k 0) ++ [(0 : UInt8)] := by rw [List.replicate_succ', List.append_assoc]; rfl
        rw [e, List.map_append]
        exact ho4
      clear ho4 hb4 hg4
      go_roundw
      case rel => exact ⟨k + 1, n + 1, A4, c4, hk1, by unfold Hid; have := Hn.out; omega, rfl, hgr4, HO4⟩
      case measure => simp [lenS]; have := Hn.out; have := HP.out.1; have := Hk.out; omega

def outB (ws : List UInt32) : Nat → List UInt8
  | 0 => []
  | k + 1 => outB ws k ++ putBigF (ws.getD k 0).toUInt64 4
theorem outB_len (ws : List UInt32) (k : Nat) : (outB ws k).length = 4 * k := by
  induction k with
  | zero => rfl
  | succ k ih => rw [outB, List.length_append, ih, putBigF4]; omega
theorem outB_eq (ws : List UInt32) (k : Nat) (hk : k ≤ 8) : outW ws k = outB ws k ++ List.replicate (32 - 4 * k) 0 := by
  induction k with
  | zero => rw [outW_zero]; rfl
  | succ k ih =>
    rw [outW, ih (by omega), outB]
    unfold splice
    have h1 := outB_len ws k
    rw [putBigF4, List.take_append_of_le_length (by omega), List.take_of_length_le (by omega), List.drop_append, List.drop_of_length_le (by omega), List.nil_append, List.drop_replicate, h1, show 32 - 4 * k - (4 * k + 4 - 4 * k) = 32 - 4 * (k + 1) by omega, List.append_assoc]
theorem outB_all (h : V8) : outB h.list 8 = outF h := by
  rw [outF_of h h.list rfl 8 rfl, outB_eq _ 8 (by omega)]
  simp
attribute [local irreducible] outB
set_option maxRecDepth 100000 in
set_option maxHeartbeats 4000000 in
theorem refOut_any (h : V8) (w : World) : Calls Tryd.prog 30 #[.agg h.vals] w (NewB 5 w (outF h)) := by
  rw [← outB_all]
  obtain ⟨ws, Hws, Hwl⟩ : ∃ ws, Hid (h.list = ws) ∧ Hid (ws.length = 8) := ⟨_, lib_hid rfl, lib_hid rfl⟩
  rw [show h.vals = (ws.map b32).toArray by rw [← Hws.out]; rfl, Hws.out]
  obtain ⟨W0, HW0, hg0⟩ : ∃ W0 : World, Hid (W0 = w.alloc (.cells (ws.map b32).toArray 51)) ∧ Grows w W0 := ⟨_, lib_hid rfl, (Grows.refl w).alloc _⟩
  obtain ⟨g0, Hg0⟩ : ∃ g, Hid (w.heap.size = g) := ⟨_, lib_hid rfl⟩
  have HB0 : Hid (Blk W0 g0 51 (ws.map b32).toArray) := by unfold Hid; rw [HW0.out, ← Hg0.out]; exact Blk.new w _ _
  go_enter Tryd.func30, Tryd.ntmps30
  go_upto_region 1 with fail
  rw [← HW0.out, Hg0.out]
  clear HW0
  go_wp2
  go_loopw [3, 4] (fun v iv wr => ∃ (k n : Nat) (C : Option Addr) (e : Nat), k ≤ 8 ∧ iv = .int .i64 (k : Int) ∧ Hid (n = 4 * k) ∧ v = .slice C n e ∧ Grows W0 wr ∧ Hid (wr.ownsRow W0.heap.size 5 1 (.slice C n e) n ((outB ws k).map b8))) (fun _ v _ => 8 - (intOf v).toNat)
  case atStart => exact ⟨0, 0, none, 0, by omega, rfl, lib_hid rfl, rfl, Grows.refl _, by rw [outB]; exact ⟨rfl, Or.inl ⟨rfl, rfl⟩⟩⟩
  case round =>
    obtain ⟨k, n, C, e, hk, rfl, Hn, rfl, hgr, HO⟩ := hrel
    by_cases hlt : k < 8
    · have hki : (k : Int) < 8 := by omega
      obtain ⟨x, Hx⟩ : ∃ x, Hid (ws.getD k 0 = x) := ⟨_, lib_hid rfl⟩
      obtain ⟨x64, Hx64, hx64⟩ : ∃ v : UInt64, Hid (x.toUInt64 = v) ∧ IntKind.u64.wrap (x.toNat : Int) = (v.toNat : Int) := ⟨_, lib_hid rfl, u64_of_u32 _⟩
      have Hstep : Hid (outB ws k ++ putBigF x64 4 = outB ws (k + 1)) := by unfold Hid; rw [outB, Hx.out, Hx64.out]
      have d0 : wr.cell? ⟨g0, k, none⟩ = some (.int .u32 (x.toNat : Int)) := by rw [← Hx.out]; exact cell32 (HB0.out.grows hgr) k (by rw [Hwl.out]; exact hlt)
      have hn32 : n ≤ 32 := by have := Hn.out; omega
      have hle := hgr.le
      go_wp2_with fail
      refine (refPutBig_any x64 4 wr (by omega)).mono ?_
      rintro e5 w5 ⟨A5, n5, c5, hn5, rfl, hg5, ho5⟩
      have HS5 := lib_hid (SB.own ho5)
      have HO5 := lib_hid (own_grows HO.out hg5)
      have hn4 : n5 = 4 := by rw [hn5.out]; exact putBigF4 _
      have hgr5 := hgr.trans hg5
      have hle5 := hgr5.le
      clear ho5 hn5 hg5 HO hgr hle d0 hx64
      subst hn4
      go_wp2_with (at_builtin; refine wpList_append rfl _ _ 28 rfl W0.heap.size 5 (.int .u8 0) 1 Tryd.underlying28 Tryd.infoByte rfl _ n _ rfl HO5.out A5 4 c5 ((putBigF x64 4).map b8) rfl HS5.out (b8_one _) (by omega) (by omega) hle5 ?_; intro A6 c6 w6 ho6 hb6 hg6)
      rw [← List.map_append, Hstep.out] at ho6
      have HO6 := lib_hid ho6
      have hgr6 : Grows W0 w6 := Below.trans hgr5 hb6
      clear ho6 hb6 hg6
      go_roundw
      case rel => exact ⟨k + 1, n + 4, A6, c6, by omega, by go_num, by unfold Hid; have := Hn.out; omega, rfl, hgr6, HO6⟩
      case measure => simp [intOf]; omega
    · have hki : ¬ (k : Int) < 8 := by omega
      have hk8 : k = 8 := by omega
      subst hk8
      have hgw := hg0.trans hgr
      go_wp2
      go_ret
      exact newB_mk rfl (by rw [outB_len, Hn.out]) hgw (own_base HO.out hg0.le)

set_option maxRecDepth 100000 in
set_option maxHeartbeats 4000000 in
theorem refSumS_any (bs : List UInt8) (A : Option Addr) (l c : Nat) (w : World) (hs : SB w A l c bs) (hl : l ≤ 1000000) :
    Calls Tryd.prog 12 #[.slice A l c] w (NewB 5 w (sumS shaK bs)) := by
  have hlen := hs.len
  obtain ⟨ks, Hks⟩ : ∃ ks, Hid (shaK = ks) := ⟨_, lib_hid rfl⟩
  obtain ⟨al, Hal⟩ : ∃ x, Hid (bs ++ padS l = x) := ⟨_, lib_hid rfl⟩
  obtain ⟨nb, Hnb⟩ : ∃ k, Hid (al.length = 64 * k) := by
    refine ⟨(l + 9 + padZ l) / 64, ?_⟩
    unfold Hid; rw [← Hal.out, List.length_append, padS_len, hlen]; unfold padZ; omega
  have Hnb2 : Hid (al.length ≤ 1000100) := by unfold Hid; rw [← Hal.out, List.length_append, padS_len, hlen]; unfold padZ; omega
  have Hpd : Hid (Calls Tryd.prog 27 #[.slice A l c] w (NewB 5 w al)) := by rw [← Hal.out]; exact refPadded2_any bs A l c w hs hl
  have Hbk : Hid (∀ (H : V8) (xs : List UInt8) (bk off c : Nat) (W : World), SB W (some ⟨bk, off, none⟩) 64 c xs → Calls Tryd.prog 29 #[.agg H.vals, .slice (some ⟨bk, off, none⟩) 64 c] W fun e w' => e = .returned (.agg (blockF ks H xs).vals) ∧ Grows W w') := fun H xs bk off c W h => by rw [← Hks.out]; exact refBlock_any H xs bk off c W h
  obtain ⟨FIN, HFIN⟩ : ∃ x, Hid (runF ks startV al = x) := ⟨_, lib_hid rfl⟩
  have HSu : Hid (sumS shaK bs = outF FIN.1) := by unfold Hid; rw [← HFIN.out, ← Hal.out, ← hlen, ← Hks.out]; unfold sumS; rfl
  rw [HSu.out]
  have HST0 : Hid (∀ W, Calls Tryd.prog 28 #[] W fun e w' => e = .returned (.agg startV.vals) ∧ Grows W w') := fun W => by
    have := refStart_any W
    rw [← startV_list] at this
    exact this
  obtain ⟨V0, HV0⟩ : ∃ x, Hid (startV = x) := ⟨_, lib_hid rfl⟩
  rw [HV0.out] at HFIN HST0
  obtain ⟨hc, Hhc, hcl, hc1⟩ : ∃ hc : Array Value, Hid (V0.vals = hc) ∧ Hid (hc.size = 8) ∧ Hid (hc.all (·.oneCell') = true) := ⟨_, lib_hid rfl, lib_hid rfl, lib_hid (b32_one _)⟩
  rw [Hhc.out] at HST0
  clear hs hlen HSu Hal Hks HV0
  go_enter Tryd.func12, Tryd.ntmps12
  go_wp2_with fail
  refine Hpd.out.mono ?_
  rintro e1 w1 ⟨A3, L, c3, hL, rfl, hg1, ho1⟩
  have HL : Hid (L = al.length) := hL
  have HS1 := lib_hid (SB.own ho1)
  have Hg1 := lib_hid hg1
  clear ho1 hL hg1 Hpd
  go_wp2_with fail
  refine (HST0.out w1).mono ?_
  rintro e2 w2 ⟨rfl, hg2⟩
  have Hg2 := lib_hid (Hg1.out.trans hg2)
  have HS2 := lib_hid (HS1.out.grows hg2)
  have HN1 : Hid (Blk (w2.alloc (.cells #[Value.int .u32 0, Value.int .u32 0, Value.int .u32 0, Value.int .u32 0, Value.int .u32 0, Value.int .u32 0, Value.int .u32 0, Value.int .u32 0] 51)) w2.heap.size 51 #[Value.int .u32 0, Value.int .u32 0, Value.int .u32 0, Value.int .u32 0, Value.int .u32 0, Value.int .u32 0, Value.int .u32 0, Value.int .u32 0]) := Blk.new _ _ _
  have Hle2 := lib_hid Hg2.out.le
  clear hg2 HST0 HS1 Hg1
  go_upto_region 3 with (refine wpList_store_blk rfl _ _ _ rfl w2.heap.size hc rfl rfl 51 _ HN1.out (by rw [Tryd.size8, hcl.out]) (by rw [hcl.out]; rfl) hc1.out w2.heap.size w2 ((Grows.refl w2).alloc _) (Nat.le_refl _) ?_; intro w3 H3 hb3 hg3)
  obtain ⟨gh, Hgh⟩ : ∃ x, Hid (w2.heap.size = x) := ⟨_, lib_hid rfl⟩
  rw [Hgh.out] at H3 ⊢
  have HH3 : Hid (Blk w3 gh 51 V0.vals) := by rw [← Hhc.out] at H3; exact H3
  have Hg23 : Hid (Grows w2 w3) := hb3
  have Hg3 : Hid (Grows w w3) := Hg2.out.trans Hg23.out
  have HS3 := lib_hid (HS2.out.grows Hg23.out)
  have Hghl : Hid (w.heap.size ≤ gh) := by rw [← Hgh.out]; exact Hle2.out
  have HA3 : Hid (0 < L → ∀ p, A3 = some p → p.block < gh) := fun h0 p hp => by
    obtain ⟨b', off', e', hb', _⟩ := HS2.out.2.2.2.2 h0
    rw [hp] at e'
    cases e'
    rw [← Hgh.out]
    exact hb'
  have HF0 : Hid (runF ks V0 (al.drop 0) = FIN) := HFIN
  clear H3 hb3 hg3 HN1 HS2 Hg2 Hhc hcl hc1 Hgh Hg23 HFIN Hle2
  go_wp2
  go_loopw [5] (fun v wr => ∃ (k i : Nat) (H : V8), Hid (i = 64 * k) ∧ i ≤ L ∧ v = .int .i64 (i : Int) ∧ Hid (Grows w wr) ∧ Hid (SB wr A3 L c3 al) ∧ Hid (Blk wr gh 51 H.vals) ∧ Hid (runF ks H (al.drop i) = FIN)) (fun v _ => L - (intOf v).toNat)
  case atStart => exact ⟨0, 0, V0, lib_hid rfl, by omega, rfl, Hg3, HS3, HH3, HF0⟩
  case round =>
    clear Hg3 HS3 HH3 HF0
    obtain ⟨k, i, H, Hik, hiL, rfl, Hgr, HS, HH0, HF⟩ := hrel
    obtain ⟨ha, Hha, hal⟩ : ∃ x : Array Value, Hid (H.vals = x) ∧ Hid (x.size = 8) := ⟨_, lib_hid rfl, lib_hid rfl⟩
    have HH : Hid (Blk wr gh 51 ha) := by rw [← Hha.out]; exact HH0
    by_cases hlt : i < L
    · have hki : (i : Int) < L := by omega
      have Hi64 : Hid (i + 64 ≤ L) := by have := Hik.out; have := HL.out; have := Hnb.out; unfold Hid; omega
      obtain ⟨bk, off, eA, hbk, _⟩ := HS.out.2.2.2.2 (by omega)
      subst eA
      have HcL : Hid (L ≤ c3) := HS.out.2.1
      have hsl := fun W => run_sl_lh (P := Tryd.prog) (t := 28) (e := 5) Tryd.underlying28 Tryd.sizeByte bk off L c3 i (i + 64) (i : Int) ((i : Int) + 64) rfl (by omega) (by omega) (by have := Hi64.out; have := HcL.out; omega) (by have := Hi64.out; have := HcL.out; omega) W
      rw [show i + 64 - i = 64 by omega] at hsl
      obtain ⟨tk, Htk, htl⟩ : ∃ t, Hid ((al.drop i).take 64 = t) ∧ Hid (t.length = 64) := ⟨_, lib_hid rfl, by have := Hi64.out; have := HL.out; unfold Hid; rw [List.length_take, List.length_drop]; omega⟩
      have HSx : Hid (∀ W, Grows wr W → SB W (some ⟨bk, off + i, none⟩) 64 (c3 - i) tk) := fun W hW => by
        have h5 := ((HS.out.grows hW).frm (k := i) (by have := Hi64.out; omega)).pre (k := 64) (by have := Hi64.out; omega)
        rw [if_neg (by have := Hi64.out; have := HcL.out; omega), Htk.out] at h5
        have e : (some (⟨bk, off, none⟩ : Addr)).map (·.add i) = some ⟨bk, off + i, none⟩ := by simp [add_zero_spot]
        rw [e] at h5
        exact h5
      obtain ⟨V2, HV2⟩ : ∃ x, Hid (blockF ks H tk = x) := ⟨_, lib_hid rfl⟩
      obtain ⟨hb, Hhb, hbl, hb1⟩ : ∃ x : Array Value, Hid (V2.vals = x) ∧ Hid (x.size = 8) ∧ Hid (x.all (·.oneCell') = true) := ⟨_, lib_hid rfl, lib_hid rfl, lib_hid (b32_one _)⟩
      have HCb : Hid (∀ W, Grows wr W → Calls Tryd.prog 29 #[.agg ha, .slice (some ⟨bk, off + i, none⟩) 64 (c3 - i)] W fun e w' => e = .returned (.agg hb) ∧ Grows W w') := fun W hW => by
        have h5 := Hbk.out H tk bk (off + i) (c3 - i) W (HSx.out W hW)
        rw [HV2.out, Hha.out, Hhb.out] at h5
        exact h5
      have HF2 : Hid (runF ks V2 (al.drop (i + 64)) = FIN) := by
        have h5 := HF.out
        rw [runF_step ks H _ (by have := Hi64.out; have := HL.out; rw [List.length_drop]; omega), Htk.out, HV2.out, List.drop_drop] at h5
        exact h5
      have hib : (i : Int) ≤ 1000100 := by have := Hnb2.out; have := HL.out; omega
      have Hbkh : Hid (bk ≠ gh) := by have := HA3.out (by have := Hi64.out; omega) _ rfl; unfold Hid; simp at this; omega
      have HiL := lib_hid hiL
      clear HF HV2 Htk HSx HH0 Hha hlt
      go_upto_region 6 with fail
      clear hki
      apply wp_region_mono 7 ((.is (.agg ha), []) :: (.is _, []) :: (.is _, []) :: (.is _, []) :: (.is _, []) :: (.is (.slice (some ⟨bk, off + i, none⟩) 64 (c3 - i)), []) :: (.is (.agg hb), []) :: []) (by kernel_rfl) (by kernel_rfl)
      apply Mono.is0
      · kernel_rfl
      · intro W hW 
        have hB5 := HH.out.grows hW
        go_wp2_with (refine wpList_load_blk (by kernel_rfl) _ _ rfl gh rfl 51 ha _ hB5 rfl rfl (by rw [Tryd.size8, hal.out]) ?_)
        exact ⟨rfl, rfl, Grows.refl _, rfl⟩
      intro k1 a1 hk1 ha1
      simp only [Nat.reduceAdd] at hk1
      simp only [Act.put, List.setIfInBounds_toArray, List.set_cons_succ, List.set_cons_zero] at ha1
      subst hk1 ha1
      iterate 4
        apply Mono.is0
        · kernel_rfl
        · intro W hW
          go_wp2
          refine ⟨rfl, rfl, Grows.refl _, ?_⟩
          unfold Oper.valAt
          go_simp
          rfl
        intro k1 a1 hk1 ha1
        simp only [Nat.reduceAdd] at hk1
        simp only [Act.put, List.setIfInBounds_toArray, List.set_cons_succ, List.set_cons_zero] at ha1
        subst hk1 ha1
      apply Mono.is0
      · kernel_rfl
      · intro W hW 
        have hs1 := hsl W
        go_wp2
        refine ⟨rfl, rfl, Grows.refl _, ?_⟩
        unfold Oper.valAt
        go_simp
      intro k1 a1 hk1 ha1
      simp only [Nat.reduceAdd] at hk1
      simp only [Act.put, List.setIfInBounds_toArray, List.set_cons_succ, List.set_cons_zero] at ha1
      subst hk1 ha1
      apply Mono.is0
      · kernel_rfl
      · intro W hW 
        go_wp2_with fail
        refine (HCb.out W hW).mono ?_
        rintro e1 w1 ⟨rfl, hg1⟩
        go_wp2
        exact ⟨rfl, rfl, hg1, rfl⟩
      intro k1 a1 hk1 ha1
      simp only [Nat.reduceAdd] at hk1
      simp only [Act.put, List.setIfInBounds_toArray, List.set_cons_succ, List.set_cons_zero] at ha1
      subst hk1 ha1
      refine Mono.done ?_
      intro wm hgm
      simp only [allF, List.drop_succ_cons, List.drop_zero]
      have HH8 := lib_hid (HH.out.grows hgm)
      have HS8 := lib_hid (HS.out.grows hgm)
      have Hg8 : Hid (Grows w wm) := Hgr.out.trans hgm
      clear HH HS Hgr HCb hgm hsl
      go_wp2_with (refine wpList_store_blk rfl _ _ _ rfl gh hb rfl rfl 51 _ HH8.out (by rw [Tryd.size8, hbl.out]) (by rw [hal.out, hbl.out]) hb1.out w.heap.size w Hg8.out Hghl.out ?_; intro w9 H9 hb9 hg9; have HG9 : Hid (Grows w w9) := hb9; have HS9 : Hid (SB w9 (some ⟨bk, off, none⟩) L c3 al) := Row.keeps HS8.out (keeps_grown hg9) (fun p hp e => Hbkh.out (by cases hp; exact (Option.some.inj e).symm)); have HB9 : Hid (Blk w9 gh 51 V2.vals) := (by rw [← Hhb.out] at H9; exact H9); clear hb9 hg9)
      go_roundw
      case rel => exact ⟨k + 1, i + 64, V2, by have := Hik.out; unfold Hid; omega, by have := Hi64.out; omega, by go_num, HG9, HS9, HB9, HF2⟩
      case measure => have := Hi64.out; simp [intOf]; omega
    · have hki : ¬ (i : Int) < L := by omega
      have hiE : i = L := by omega
      have HFe : Hid (FIN = (H, [])) := by
        have h5 := HF.out
        rw [hiE, List.drop_of_length_le (by rw [HL.out]; omega), runF_end ks H [] (by simp)] at h5
        exact h5.symm
      have HCo : Hid (Calls Tryd.prog 30 #[.agg ha] wr (NewB 5 wr (outF FIN.1))) := by
        have h5 := refOut_any H wr
        rw [Hha.out] at h5
        rw [HFe.out]
        exact h5
      clear HF HFe hlt hiE hiL HS HH0 Hha
      go_wp2_with (refine wpList_load_blk rfl _ _ rfl gh rfl _ ha _ HH.out rfl rfl (by rw [Tryd.size8, hal.out]) ?_)
      refine HCo.out.mono ?_
      rintro e8 w8 ⟨A8, n8, c8, hn8, rfl, hg8, ho8⟩
      have Hg8 : Hid (Grows w w8) := Hgr.out.trans hg8
      go_wp2
      go_ret
      exact newB_mk rfl hn8.out Hg8.out (own_base ho8 Hgr.out.le)

end Go.Proofs.YtnlffaglmcddkaaDoor
