/-
  palfreyref15.Encode.
-/
import Derived.Test.YtbmmjkpibnnmeaaEnc1
import Derived.Test.YtbmmjkpibnnmeaaRef1
import Derived.Test.YtbmmjkpibnnmeaaOwn
import Derived.Deep.RegionLaw
namespace Go.Proofs.Ytbmmjkpibnnmeaa
open Go Go.RowKit
set_option linter.unusedSimpArgs false
set_option linter.unusedVariables false


theorem step_append_atE {P : Program} {ops : Array Oper} {o : Oper} {a : Act} {w : World} {K : Act → World → Prop} {Q : Exit → Act → World → Prop} {E : Prop}
    (hg : o.guard = none) (s x : Operand) (t tx : TypeId) (ho : o.op = .call { callee := .builtin .append, args := #[s, x], argTypes := #[t, tx] })
    (base : Nat) (e : TypeId) (z : Value) (bytes : Nat) (ht : P.underlying t = some (.slice e)) (hinfo : (P.info? e).map (fun i => (i.zero, i.size, i.bytes)) = some (some z, 1, bytes)) (hz1 : z.cells = #[z])
    (A : Option Addr) (n c : Nat) (xs : List Value) (hs : a.eval s = .slice A n c) (hown : OwnAt w base A n c xs) (xv : Value) (hx : a.eval x = xv) (m : Nat) (news : List Value) (hsrc : Src P 1 tx xv m news w)
    (hbytes : (n + m) * bytes ≤ 140737488355328) (hb : 0 < bytes) (hbase : base ≤ w.heap.size)
    (h : ∀ A' c' w', OwnAt w' base A' (n + m) c' (xs ++ news) → w.grownBy w' (blkOf A) → (blkOf A' = blkOf A ∨ blkOf A' = some w.heap.size) → K (a.put o.dst (.slice A' (n + m) c')) w') :
    if Region.wanted o (yielded ops a.tmps) = true then Oper.wp P o a w K Q else E := by
  have hw : Region.wanted o (yielded ops a.tmps) = true := by simp [Region.wanted, hg]
  rw [if_pos hw]
  obtain ⟨A', c', w', hrun, h2, h3, h4⟩ := run_append_at (P := P) (w := w) base t tx o.type e z bytes ht hinfo hz1 A n c xs hown xv m news hsrc hbytes hb hbase
  unfold Oper.wp
  simp only [execOp, ho, resolve, invoke, builtin, Sem.run_bind, Sem.run_pure, Result.andThen_ok, List.map_toArray, List.map_cons, List.map_nil, hs, hx, hrun]
  exact h A' c' w' h2 h3 h4
attribute [local irreducible] Calls in
set_option maxRecDepth 100000 in
set_option maxHeartbeats 4000000 in
theorem refEncode_any (l : List (Int × Int)) (A : Option Addr) (n c : Nat) (w : World) (hs : SpanR w A n c l) (hm : n ≤ 1000000) :
    Calls Try.prog 35 #[.slice A n c] w (NewEn w (encR l).1 (encR l).2) := by
  have HS := lib_hid hs
  have hll := lib_hid hs.len
  clear hs
  by_cases hbig : 8 < n
  · have hb : (8 : Int) < n := by omega
    have Hd : Hid (encR l = ([], 10)) := by unfold Hid encR; rw [hll.out, if_pos hbig]
    rw [Hd.out]
    go_enter Try.func35, Try.ntmps35
    go_wp2
    go_ret2
    exact ⟨none, 0, 0, lib_hid rfl, rfl, Grows.refl w, SB.nil _⟩
  have hb : ¬ (8 : Int) < n := by omega
  have Hl8 : Hid (l.length ≤ 8) := by unfold Hid; rw [hll.out]; omega
  have Hn8 : Hid (n ≤ 8) := by unfold Hid; omega
  go_enter Try.func35, Try.ntmps35
  go_wp2
  clear hb
  go_loopw [4, 5] (fun v i wr => ∃ (k s : Nat) (C : Option Addr) (e : Nat), k ≤ n ∧ i = .int .i64 (k : Int) ∧ v = .slice C s e ∧ s ≤ 64 ∧ Hid (s = 8 * k) ∧ Hid ((ints (l.take k)).all okE = true) ∧ Grows w wr ∧ Hid (OwnAt wr w.heap.size C s e ((encI (ints (l.take k))).map b8))) (fun _ i _ => n - (intOf i).toNat)
  case atStart => exact ⟨0, 0, none, 0, Nat.zero_le _, rfl, rfl, by omega, lib_hid rfl, lib_hid rfl, Grows.refl w, lib_hid (OwnAt.nil _ _)⟩
  case round =>
    obtain ⟨k, s, C, e, hk, rfl, rfl, hs64, Hs, Hok, hgr, HO⟩ := hrel
    by_cases hlt : k < n
    · have hki : (k : Int) < n := by omega
      obtain ⟨b, off, x, y, rfl, hb, hxy, hc1, hc2⟩ := HS.out.at hlt
      have e1 := (hgr.cell (p := ⟨b, off + k * 2, none⟩) hb).trans hc1
      have e2 := (hgr.cell (p := ⟨b, off + k * 2 + 1, none⟩) hb).trans hc2
      have hb' : b < wr.heap.size := hgr.lt hb
      have Hxy := lib_hid hxy
      clear hxy
      by_cases hx0 : x < 0
      · have Hd : Hid (encR l = ([], 1)) := encR_no (m := 0) Hl8.out Hxy.out rfl (by unfold okE; rw [decide_eq_false (show ¬ 0 ≤ x by omega)]; rfl)
        go_wp2
        go_ret2
        rw [Hd.out]
        exact ⟨none, 0, 0, lib_hid rfl, rfl, hgr, SB.nil _⟩
      by_cases hx1 : 4294967295 < x
      · have Hd : Hid (encR l = ([], 1)) := encR_no (m := 0) Hl8.out Hxy.out rfl (by unfold okE; rw [decide_eq_false (show ¬ x < 4294967296 by omega)]; exact Bool.and_false _)
        go_wp2
        go_ret2
        rw [Hd.out]
        exact ⟨none, 0, 0, lib_hid rfl, rfl, hgr, SB.nil _⟩
      by_cases hy0 : y < 0
      · have Hd : Hid (encR l = ([], 1)) := encR_no (m := 1) Hl8.out Hxy.out rfl (by unfold okE; rw [decide_eq_false (show ¬ 0 ≤ y by omega)]; rfl)
        go_wp2
        go_ret2
        rw [Hd.out]
        exact ⟨none, 0, 0, lib_hid rfl, rfl, hgr, SB.nil _⟩
      by_cases hy1 : 4294967295 < y
      · have Hd : Hid (encR l = ([], 1)) := encR_no (m := 1) Hl8.out Hxy.out rfl (by unfold okE; rw [decide_eq_false (show ¬ y < 4294967296 by omega)]; exact Bool.and_false _)
        go_wp2
        go_ret2
        rw [Hd.out]
        exact ⟨none, 0, 0, lib_hid rfl, rfl, hgr, SB.nil _⟩
      obtain ⟨u, rfl⟩ : ∃ u : Nat, x = (u : Int) := ⟨x.toNat, by omega⟩
      obtain ⟨v, rfl⟩ : ∃ v : Nat, y = (v : Int) := ⟨y.toNat, by omega⟩
      have hu1 : (u : Int) < 4294967296 := by omega
      have hv1 : (v : Int) < 4294967296 := by omega
      have Hp : Hid (∀ (u : Nat) (_ : u < 4294967296) W, Calls Try.prog 53 #[.int .u64 (u : Int), .int .i64 4] W (NewB 5 W (encI [(u : Int)]))) := fun u hu W => by
        have h3 := refPutLittle_any (UInt64.ofNat u) 4 W (by omega)
        rw [show (UInt64.ofNat u).toNat = u by rw [UInt64.toNat_ofNat']; exact Nat.mod_eq_of_lt (by omega)] at h3
        exact h3
      have Hpx := lib_hid (Hp.out u (by omega))
      have Hpy := lib_hid (Hp.out v (by omega))
      have Hok3 : Hid ((ints (l.take (k + 1))).all okE = true) := by
        unfold Hid
        rw [ints_succ Hxy.out, List.all_append, Hok.out]
        simp [okE]; omega
      have Hen : Hid (encI (ints (l.take (k + 1))) = encI (ints (l.take k)) ++ encI [(u : Int)] ++ encI [(v : Int)]) := by
        unfold Hid
        rw [ints_succ Hxy.out, show [(u : Int), (v : Int)] = [(u : Int)] ++ [(v : Int)] from rfl, encI_append, encI_append, List.append_assoc]
      have hgd : Grows w wr.drew := hgr.drew
      have HOd := lib_hid (HO.out.grows ((Grows.refl wr).drew))
      have hx0' : ¬ (4294967295 : Int) < (u : Int) := hx1
      have hy0' : ¬ (4294967295 : Int) < (v : Int) := hy1
      have hmu : IntKind.u64.wrap (u : Int) = (u : Int) := by rw [IntKind.wrap_u64]; omega
      have hmv : IntKind.u64.wrap (v : Int) = (v : Int) := by rw [IntKind.wrap_u64]; omega
      clear Hp HO
      go_wp2
      go_region_law (first | (go_simp; go_at_call 53; refine (Hpx.out _).mono ?_; rintro e0 w1 ⟨A1, n1, d1, hn1, rfl, hg1, ho1⟩; obtain rfl : n1 = 4 := (by rw [hn1.out, encI_len]; rfl); have hd1 : Grows w w1 := hgd.trans hg1; have HO1 := lib_hid (HOd.out.grows hg1); have HS1 := lib_hid (SB.own ho1); have e11 := (hd1.cell (p := ⟨b, off + k * 2, none⟩) hb).trans hc1; have e21 := (hd1.cell (p := ⟨b, off + k * 2 + 1, none⟩) hb).trans hc2; have hz1 := hd1.le; have HG1 := lib_hid hd1; clear hg1 ho1 hn1 hd1) | (refine step_append_atE rfl (.tmp 45) (.tmp 52) 44 44 rfl w.heap.size 5 (.int .u8 0) 1 Try.underlying44 Try.infoByte rfl C (s) e _ rfl HO1.out (.slice A1 4 d1) rfl 4 _ (Row.src HS1.out Try.underlying44 (b8_one _)) (by omega) (by omega) hz1 ?_; intro A2 d2 w2 hO2 hG2 hl2; have hd2 : Grows w w2 := HG1.out.grown hG2 (fun q hq => by obtain ⟨q2, hq2, hqb⟩ := Option.map_eq_some_iff.1 hq; have := HO1.out.base_le q2 hq2; omega); have HO2 := lib_hid hO2; have e12 := (hd2.cell (p := ⟨b, off + k * 2, none⟩) hb).trans hc1; have e22 := (hd2.cell (p := ⟨b, off + k * 2 + 1, none⟩) hb).trans hc2; have hz2 := hd2.le; have HG2 := lib_hid hd2; clear hO2 hG2 hl2 hd2) | (go_simp; go_at_call 53; refine (Hpy.out _).mono ?_; rintro e0 w3 ⟨A3, n3, d3, hn3, rfl, hg3, ho3⟩; obtain rfl : n3 = 4 := (by rw [hn3.out, encI_len]; rfl); have hd3 : Grows w w3 := HG2.out.trans hg3; have HO3 := lib_hid (HO2.out.grows hg3); have HS3 := lib_hid (SB.own ho3); have e13 := (hd3.cell (p := ⟨b, off + k * 2, none⟩) hb).trans hc1; have e23 := (hd3.cell (p := ⟨b, off + k * 2 + 1, none⟩) hb).trans hc2; have hz3 := hd3.le; have HG3 := lib_hid hd3; clear hg3 ho3 hn3 hd3) | (refine step_append_atE rfl (.tmp 53) (.tmp 60) 44 44 rfl w.heap.size 5 (.int .u8 0) 1 Try.underlying44 Try.infoByte rfl A2 (s + 4) d2 _ rfl HO3.out (.slice A3 4 d3) rfl 4 _ (Row.src HS3.out Try.underlying44 (b8_one _)) (by omega) (by omega) hz3 ?_; intro A4 d4 w4 hO4 hG4 hl4; have hd4 : Grows w w4 := HG3.out.grown hG4 (fun q hq => by obtain ⟨q2, hq2, hqb⟩ := Option.map_eq_some_iff.1 hq; have := HO3.out.base_le q2 hq2; omega); have HO4 := lib_hid hO4; have e14 := (hd4.cell (p := ⟨b, off + k * 2, none⟩) hb).trans hc1; have e24 := (hd4.cell (p := ⟨b, off + k * 2 + 1, none⟩) hb).trans hc2; have hz4 := hd4.le; have HG4 := lib_hid hd4; clear hO4 hG4 hl4 hd4))
      all_goals
        have HO5 : Hid (OwnAt w4 w.heap.size A4 (s + 4 + 4) d4 ((encI (ints (l.take (k + 1)))).map b8)) := lib_hid (by rw [Hen.out, List.map_append, List.map_append]; exact HO4.out)
        clear e11 e21 e12 e22 e13 e23 e14 e24 hz1 hz2 hz3 hz4 HO1 HO2 HO3 HS1 HS3 HO4
        go_wp2
        go_roundw
        case rel => exact ⟨k + 1, s + 4 + 4, A4, d4, by omega, by go_num, rfl, by have := Hs.out; have := Hn8.out; omega, lib_hid (by have := Hs.out; omega), Hok3, HG4.out, HO5⟩
        case measure => simp [intOf]; omega
    · have hki : ¬ (k : Int) < n := by omega
      have hkn : k = n := by omega
      subst hkn
      have Hd : Hid (encR l = (encI (ints l), 0)) := encR_yes Hl8.out (by have := Hok.out; rwa [List.take_of_length_le (by rw [hll.out]; omega)] at this)
      have HO2 := HO.out
      rw [List.take_of_length_le (by rw [hll.out]; omega)] at HO2
      go_wp2
      go_ret2
      rw [Hd.out]
      exact ⟨C, s, e, lib_hid (by rw [encI_len, ints_len, hll.out, Hs.out]; omega), rfl, hgr, HO2.row⟩
end Go.Proofs.Ytbmmjkpibnnmeaa
