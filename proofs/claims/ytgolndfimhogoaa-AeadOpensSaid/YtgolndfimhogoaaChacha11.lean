/-
  The walk of the reference's Block.
-/
import Derived.Test.YtgolndfimhogoaaChacha10
import Derived.Test.YtgolndfimhogoaaFirstLe
import Derived.Test.YtgolndfimhogoaaBytesLe
import Derived.Test.YtgolndfimhogoaaLaw4b
import Derived.Deep.Cut
import Derived.Lib.SlBytesConst
namespace Go.Proofs.Ytgolndfimhogoaa
open Go Go.RowKit
set_option linter.unusedSimpArgs false


theorem allF4_len (key nonce : List UInt8) (n : UInt32) (hk : key.length = 32) (hn : nonce.length = 12) : (allF4 key nonce n).length = 64 := by simp [allF4, sigF, putLittleF, hk, hn]

/-- append to a full slice that is only read: a new block. -/
theorem wpList_append_read {P : Program} {w : World} {ops : Array Oper} {rest : List Oper} {o : Oper} {a : Act} {Q : Exit → Act → World → Prop} (hgd : Region.wanted o (yielded ops a.tmps) = true) (s x : Operand) (t : TypeId)
    (ho : o.op = .call { callee := .builtin .append, args := #[s, x], argTypes := #[t, t] }) (e : TypeId) (z : Value) (ht : P.underlying t = some (.slice e)) (hinfo : (P.info? e).map (fun i => (i.zero, i.size, i.bytes)) = some (some z, 1, 1)) (hz1 : z.cells = #[z])
    (b ad : Addr) (n c m cm : Nat) (olds news : List Value) (hs : a.eval s = .slice (some b) n c) (hx : a.eval x = .slice (some ad) m cm) (hlo : olds.length = n) (holds : ∀ j v, olds[j]? = some v → w.cell? (b.add j) = some v) (hr : Row w (some ad) m cm news)
    (hfull : c < n + m) (hsmall : n + m ≤ 1000000)
    (h : ∀ A' c' w', w'.ownsRow w.heap.size e 1 (.slice A' (n + m) c') (n + m) (olds ++ news) → Grows w w' → wpList P ops Q rest (a.put o.dst (.slice A' (n + m) c')) w') : wpList P ops Q (o :: rest) a w := by
  obtain ⟨i, hi, hzz⟩ := Option.map_eq_some_iff.1 hinfo
  simp only [Prod.mk.injEq] at hzz
  obtain ⟨hz, hsz, hby⟩ := hzz
  have hfit := growslice_fits (need := n + m) (old := c) (bytes := i.bytes) (by omega) (by rw [hby]; omega)
  have hrun := run_append_grow (P := P) (w := w) t o.type e i z ht hi hz b n c olds (by rw [hsz, Nat.mul_one]; exact hlo) holds ad m cm news (by rw [hsz, Nat.mul_one]; exact hr.1) hr.news hfull (by omega) (by omega)
  have hge := grownCap_ge w (n + m) c e
  have hcm := grownCap_le_maxLen w (n + m) c e (by unfold maxLen; omega)
  have hl : (olds ++ news).length = (n + m) * 1 := by rw [List.length_append, hlo, hr.1, Nat.mul_one]
  have hown : (w.drew.alloc (.cells (olds.toArray ++ news.toArray ++ Builtin.zeroCells z.cells (grownCap w (n + m) c e - (n + m))) e)).ownsRow w.heap.size e 1 (.slice (some ⟨w.heap.size, 0, none⟩) (n + m) (grownCap w (n + m) c e)) (n + m) (olds ++ news) := by
    refine ⟨hl, .inr ⟨w.heap.size, _, _, rfl, Nat.le_refl _, heap_alloc_new w.drew _, hge, hcm, ?_, ?_⟩⟩
    · have h1 := hr.1
      simp only [Array.size_append, List.size_toArray, size_zeroCells, hz1, hlo, h1, List.length_cons, List.length_nil]
      omega
    · simp only [Array.toList_append]
      rw [← hl]
      exact List.take_left
  refine wpList_step fun K hK => ?_
  rw [if_pos hgd]
  unfold Oper.wp
  simp only [execOp, ho, resolve, invoke, builtin, Sem.run_bind, Sem.run_pure, Result.andThen_ok, List.map_toArray, List.map_cons, List.map_nil, hs, hx, hrun]
  exact hK _ _ (h _ _ _ hown ((Grows.refl w).drew.alloc _))

set_option maxRecDepth 100000 in
set_option maxHeartbeats 4000000 in
theorem refBlock_gen (A B : Option Addr) (c d : Nat) (key nonce : List UInt8) (n : UInt32) (w : World) (hk : SB w A 32 c key) (hn : SB w B 12 d nonce) (bc : List UInt8) (_ : Hid (bc.length = 64))
   (Hbc : Hid (∀ was T N fin, firstF key nonce n = was → T = 10 → N = 16 → outN T was = fin → bc = bytesN fin was N)) :
    Calls Try.prog 29 #[.slice A 32 c, .slice B 12 d, b32 n] w (NewB 5 w bc) := by
  obtain ⟨n64, Hn, hn64⟩ : ∃ v : UInt64, Hid (n.toUInt64 = v) ∧ IntKind.u64.wrap (n.toNat : Int) = (v.toNat : Int) := ⟨_, lib_hid rfl, u64_of_u32 n⟩
  have hkl := hk.len
  have hnl := hn.len
  have hcv := Go.Lib.run_convert_bytes_const (P := Try.prog) w 22 5 #[.int .u8 101, .int .u8 120, .int .u8 112, .int .u8 97, .int .u8 110, .int .u8 100, .int .u8 32, .int .u8 51, .int .u8 50, .int .u8 45, .int .u8 98, .int .u8 121, .int .u8 116, .int .u8 101, .int .u8 32, .int .u8 107] 16 16 Try.underlying22 Try.underlying5
  have hg1 : Grows w (w.alloc (.cells #[.int .u8 101, .int .u8 120, .int .u8 112, .int .u8 97, .int .u8 110, .int .u8 100, .int .u8 32, .int .u8 51, .int .u8 50, .int .u8 45, .int .u8 98, .int .u8 121, .int .u8 116, .int .u8 101, .int .u8 32, .int .u8 107] 5 (16, 17))) := (Grows.refl w).alloc _
  have Hholds : Hid (∀ j v, (sigF.map b8)[j]? = some v → (w.alloc (.cells #[.int .u8 101, .int .u8 120, .int .u8 112, .int .u8 97, .int .u8 110, .int .u8 100, .int .u8 32, .int .u8 51, .int .u8 50, .int .u8 45, .int .u8 98, .int .u8 121, .int .u8 116, .int .u8 101, .int .u8 32, .int .u8 107] 5 (16, 17))).cell? ((⟨w.heap.size, 0, none⟩ : Addr).add j) = some v) := fun j v hv => by
    have hh : (w.alloc (.cells #[.int .u8 101, .int .u8 120, .int .u8 112, .int .u8 97, .int .u8 110, .int .u8 100, .int .u8 32, .int .u8 51, .int .u8 50, .int .u8 45, .int .u8 98, .int .u8 121, .int .u8 116, .int .u8 101, .int .u8 32, .int .u8 107] 5 (16, 17))).heap[w.heap.size]? = some (.cells #[.int .u8 101, .int .u8 120, .int .u8 112, .int .u8 97, .int .u8 110, .int .u8 100, .int .u8 32, .int .u8 51, .int .u8 50, .int .u8 45, .int .u8 98, .int .u8 121, .int .u8 116, .int .u8 101, .int .u8 32, .int .u8 107] 5 (16, 17)) := heap_alloc_new w _
    rw [add_zero_spot, Nat.zero_add, ← hv]
    simp only [World.cell?, hh]
    show (#[.int .u8 101, .int .u8 120, .int .u8 112, .int .u8 97, .int .u8 110, .int .u8 100, .int .u8 32, .int .u8 51, .int .u8 50, .int .u8 45, .int .u8 98, .int .u8 121, .int .u8 116, .int .u8 101, .int .u8 32, .int .u8 107] : Array Value)[j]? = _
    rw [show (#[.int .u8 101, .int .u8 120, .int .u8 112, .int .u8 97, .int .u8 110, .int .u8 100, .int .u8 32, .int .u8 51, .int .u8 50, .int .u8 45, .int .u8 98, .int .u8 121, .int .u8 116, .int .u8 101, .int .u8 32, .int .u8 107] : Array Value) = (sigF.map b8).toArray from rfl, List.getElem?_toArray]
  obtain ⟨kb, ko, rfl, _, _⟩ := hk.2.2.2.2 (by omega)
  have HK := lib_hid (hk.grows hg1)
  have HN := lib_hid hn
  have Hkl := lib_hid hkl
  have Hfe := lib_hid (first_eq key nonce n hkl)
  have Hnl := lib_hid hnl
  clear hk hn hkl hnl
  go_enter Try.func29, Try.ntmps29
  go_upto_region 2 with (at_builtin; refine wpList_append_read rfl _ _ 22 rfl 5 (.int .u8 0) Try.underlying22 Try.infoByte rfl ⟨w.heap.size, 0, none⟩ ⟨kb, ko, none⟩ 16 16 32 c (sigF.map b8) (key.map b8) rfl rfl rfl Hholds.out HK.out (by omega) (by omega) ?_; intro A3 c3 w3 ho3 hg3)
  have hb4 : Grows w w3 := hg1.trans hg3
  have HO3 : Hid (w3.ownsRow w.heap.size 5 1 (.slice A3 48 c3) 48 ((sigF ++ key).map b8)) := by
    have := own_base ho3 hg1.le
    rw [← List.map_append] at this
    exact this
  clear ho3 hg3 Hholds HK hcv hg1
  go_wp2_with fail
  refine (refPutLittle_any n64 4 w3 (by omega)).mono ?_
  rintro e w4 ⟨A4, n4, c4, hn4, rfl, hg4, ho4⟩
  obtain rfl : n4 = 4 := by rw [hn4.out]; simp [putLittleF]
  have HO4 := lib_hid (own_grows HO3.out hg4)
  have hs4 := lib_hid (SB.own ho4)
  have hgw4 := hb4.trans hg4
  have hsz4 := hgw4.le
  have HN4 := lib_hid (HN.out.grows hgw4)
  clear ho4 hg4 hb4 HO3
  go_upto_region 3 with (first
    | (at_builtin; refine wpList_append rfl _ _ 22 rfl w.heap.size 5 (.int .u8 0) 1 Try.underlying22 Try.infoByte rfl  _ 48 _ rfl HO4.out _ _ _ _ rfl hs4.out (b8_one _) (by omega) (by omega) hsz4 ?_; intro A5 c5 w5 ho5 hb5 hg5)
    | (at_builtin; refine wpList_append rfl _ _ 22 rfl w.heap.size 5 (.int .u8 0) 1 Try.underlying22 Try.infoByte rfl  _ 52 _ rfl ho5 _ _ _ _ rfl (HN.out.grows (Below.trans hgw4 hb5)) (b8_one _) (by omega) (by omega) (Nat.le_trans hsz4 hb5.size) ?_; intro A6 c6 w6 ho6 hb6 hg6))
  have HALL : Hid (SB w6 A6 64 c6 (allF4 key nonce n)) := by
    unfold Hid allF4
    rw [← List.map_append, ← List.map_append] at ho6
    rw [Hn.out]
    exact SB.own ho6
  have hgw6 : Grows w w6 := Below.trans (Below.trans hgw4 hb5) hb6
  obtain ⟨all, Hall, alll⟩ : ∃ v, Hid (allF4 key nonce n = v) ∧ Hid (v.length = 64) := ⟨_, lib_hid rfl, lib_hid (allF4_len key nonce n Hkl.out Hnl.out)⟩
  rw [Hall.out] at HALL Hfe
  have hac := HALL.out.cap
  clear ho6 ho5 hb6 hb5 hg6 hg5 HO4 hs4 HN4
  obtain ⟨g8, Hg8⟩ : ∃ g, Hid (w6.heap.size = g) := ⟨_, lib_hid rfl⟩
  obtain ⟨W7, HW7⟩ : ∃ W : World, Hid (W = w6.alloc (.cells #[.int .u32 0, .int .u32 0, .int .u32 0, .int .u32 0, .int .u32 0, .int .u32 0, .int .u32 0, .int .u32 0, .int .u32 0, .int .u32 0, .int .u32 0, .int .u32 0, .int .u32 0, .int .u32 0, .int .u32 0, .int .u32 0] 61)) := ⟨_, lib_hid rfl⟩
  have hg7 : Grows w6 W7 := by rw [HW7.out]; exact (Grows.refl _).alloc _
  have HS0 : Hid (Blk W7 g8 61 ((putW (wordAt all) 0 0 (List.replicate 16 0)).map b32).toArray) := by
    unfold Hid; rw [HW7.out, ← Hg8.out]; exact Blk.new _ _ _
  go_upto_region 4 with fail
  rw [← HW7.out, Hg8.out]
  go_wp2_with fail
  go_loopw [9] (fun v wr => ∃ i : Nat, i ≤ 16 ∧ v = .int .i64 (i : Int) ∧ Grows w6 wr ∧ Hid (Blk wr g8 61 ((putW (wordAt all) 0 i (List.replicate 16 0)).map b32).toArray)) (fun v _ => 16 - (intOf v).toNat)
  case atStart => exact ⟨0, by omega, rfl, hg7, HS0⟩
  case round =>
    obtain ⟨i, hi, rfl, hgr, hS⟩ := hrel
    by_cases hlt : i < 16
    · have hSB := (((HALL.out.grows hgr).from (k := 4 * i) (by omega)).pre (k := 4) (by omega))
      rw [if_neg (show ¬ c6 = 4 * i by omega)] at hSB
      have HSB := lib_hid hSB
      have hci : ¬ c6 = 4 * i := by omega
      clear hSB
      obtain ⟨lw, Hlw⟩ : ∃ v, Hid (littleF ((all.drop (4 * i)).take 4) = v) := ⟨_, lib_hid rfl⟩
      obtain ⟨wd, Hwd, hwd⟩ : ∃ v : UInt32, Hid (wordAt all i = v) ∧ IntKind.u32.wrap (lw.toNat : Int) = (v.toNat : Int) := ⟨lw.toUInt32, by unfold Hid wordAt; rw [Hlw.out], u32_of_u64 lw⟩
      have Hl := lib_hid (putW_len (wordAt all) 0 i (List.replicate 16 0))
      go_wp2_with fail
      refine (refLittle_any _ _ _ _ wr HSB.out).mono ?_
      rintro e w8 ⟨rfl, rfl⟩
      rw [Hlw.out]
      obtain ⟨old, hold⟩ : ∃ v, wr.cell? ⟨g8, i, none⟩ = some v := by
        rw [hS.out.cell, List.getElem?_toArray, List.getElem?_map, List.getElem?_eq_getElem (by rw [Hl.out]; show i < 16; omega)]
        exact ⟨_, rfl⟩
      have hfr := hS.out.frozen i
      have gS := blk_set32 hS.out i wd
      have GS : Hid (Blk (wr.setCell ⟨g8, i, none⟩ (b32 wd)) g8 61 ((putW (wordAt all) 0 (i + 1) (List.replicate 16 0)).map b32).toArray) := by
        unfold Hid putW; rw [Hwd.out, Nat.zero_add]; exact gS
      have hg9 : Grows w6 (wr.setCell ⟨g8, i, none⟩ (b32 wd)) := hgr.setCell (p := ⟨g8, i, none⟩) (by rw [Hg8.out]; exact Nat.le_refl _) _
      clear gS
      have h16 : (i : Int) < 16 := by omega
      go_wp2
      go_roundw
      case rel => exact ⟨i + 1, by omega, by go_num, hg9, GS⟩
      case measure => simp [intOf]; omega
    · have Hi16 : Hid (i = 16) := by unfold Hid; omega
      obtain ⟨was, Hwas, wasl⟩ : ∃ s : List UInt32, Hid (putW (wordAt all) 0 i (List.replicate 16 0) = s) ∧ Hid (s.length = 16) := ⟨_, lib_hid rfl, by unfold Hid; rw [putW_len]; rfl⟩
      have HF : Hid (firstF key nonce n = was) := by unfold Hid; rw [← Hwas.out, Hi16.out]; exact Hfe.out.symm
      rw [Hwas.out] at hS
      obtain ⟨res, Hres, hrl, hra⟩ : ∃ res : Array Value, Hid ((was.map b32).toArray = res) ∧ res.size = 16 ∧ res.all (·.oneCell') = true := ⟨_, lib_hid rfl, by simp [wasl.out], cells32 _⟩
      have hS8 := hS.out
      rw [Hres.out] at hS8
      clear Hi16 Hfe Hwas hS
      go_upto_region 9 with (first
        | (refine wpList_load_blk rfl _ _ rfl g8 rfl 61 res _ hS8 Try.underlying61 rfl (by rw [Try.size16w, hrl]) ?_)
        | (refine wpList_store_blk rfl _ _ _ rfl wr.heap.size res rfl rfl 61 _ (Blk.new _ _ _) (by rw [Try.size16w, hrl]) (by simp [hrl]) hra wr.heap.size wr ((Grows.refl wr).alloc _) (Nat.le_refl _) ?_; intro w9 H9 hb9 hg9))
      obtain ⟨gN, Hg9, h89⟩ : ∃ g, Hid (wr.heap.size = g) ∧ g8 < g := ⟨_, lib_hid rfl, hS8.lt⟩
      rw [Hg9.out] at H9
      rw [Hg9.out]
      rw [← Hres.out] at H9 hS8
      have h6 : w6.heap.size ≤ g8 := by rw [Hg8.out]; exact Nat.le_refl _
      have HA : Hid (Blk w9 g8 61 (was.map b32).toArray) := hS8.below hb9 (by rw [Hg9.out]; exact h89)
      have HB := lib_hid H9
      have hgr9 : Grows w6 w9 := hgr.trans hb9
      clear H9 hS8 hb9 hg9 hgr Hres hrl hra HALL
      go_wp2_with fail
      go_loopw [11] (fun i wr => ∃ t : Nat, t ≤ 10 ∧ i = .int .i64 t ∧ Grows w6 wr ∧ Hid (Blk wr g8 61 (was.map b32).toArray) ∧ Hid (Blk wr gN 61 ((outN t was).map b32).toArray)) (fun i _ => 10 - (intOf i).toNat)
      case atStart => exact ⟨0, by omega, rfl, hgr9, HA, HB⟩
      case round =>
        clear HA HB hgr9
        obtain ⟨v0, rfl⟩ : ∃ v0 : World, v0 = wr := ⟨_, rfl⟩
        obtain ⟨t, ht, rfl, HG0, HA0, HB0⟩ := hrel
        by_cases hlt : t < 10
        · obtain ⟨s0, Hs0, s0l⟩ : ∃ s, Hid (outN t was = s) ∧ Hid (s.length = 16) := ⟨_, lib_hid rfl, by unfold Hid; rw [outN_len]; exact wasl.out⟩
          rw [Hs0.out] at HB0
          go_wp2_with fail
          refine (refq_any gN s0 0 4 8 12 _ s0l.out (by omega) (by omega) (by omega) (by omega) HB0.out).mono ?_
          rintro e v1 ⟨rfl, hgb, hB⟩
          obtain ⟨s1, Hs1, s1l⟩ : ∃ s, Hid (quarterS s0 0 4 8 12 = s) ∧ Hid (s.length = 16) := ⟨_, lib_hid rfl, by unfold Hid; rw [quarterS_len]; exact s0l.out⟩
          rw [Hs1.out] at hB
          have HB1 := lib_hid hB
          have HA1 := lib_hid (HA0.out.grown hgb (fun e => by have := Option.some.inj e; omega))
          have HG1 := HG0.grown hgb (fun k hk => by cases hk; omega)
          clear hB hgb HB0 HA0 HG0
          go_wp2_with fail
          refine (refq_any gN s1 1 5 9 13 _ s1l.out (by omega) (by omega) (by omega) (by omega) HB1.out).mono ?_
          rintro e v2 ⟨rfl, hgb, hB⟩
          obtain ⟨s2, Hs2, s2l⟩ : ∃ s, Hid (quarterS s1 1 5 9 13 = s) ∧ Hid (s.length = 16) := ⟨_, lib_hid rfl, by unfold Hid; rw [quarterS_len]; exact s1l.out⟩
          rw [Hs2.out] at hB
          have HB2 := lib_hid hB
          have HA2 := lib_hid (HA1.out.grown hgb (fun e => by have := Option.some.inj e; omega))
          have HG2 := HG1.grown hgb (fun k hk => by cases hk; omega)
          clear hB hgb HB1 HA1 HG1
          go_wp2_with fail
          refine (refq_any gN s2 2 6 10 14 _ s2l.out (by omega) (by omega) (by omega) (by omega) HB2.out).mono ?_
          rintro e v3 ⟨rfl, hgb, hB⟩
          obtain ⟨s3, Hs3, s3l⟩ : ∃ s, Hid (quarterS s2 2 6 10 14 = s) ∧ Hid (s.length = 16) := ⟨_, lib_hid rfl, by unfold Hid; rw [quarterS_len]; exact s2l.out⟩
          rw [Hs3.out] at hB
          have HB3 := lib_hid hB
          have HA3 := lib_hid (HA2.out.grown hgb (fun e => by have := Option.some.inj e; omega))
          have HG3 := HG2.grown hgb (fun k hk => by cases hk; omega)
          clear hB hgb HB2 HA2 HG2
          go_wp2_with fail
          refine (refq_any gN s3 3 7 11 15 _ s3l.out (by omega) (by omega) (by omega) (by omega) HB3.out).mono ?_
          rintro e v4 ⟨rfl, hgb, hB⟩
          obtain ⟨s4, Hs4, s4l⟩ : ∃ s, Hid (quarterS s3 3 7 11 15 = s) ∧ Hid (s.length = 16) := ⟨_, lib_hid rfl, by unfold Hid; rw [quarterS_len]; exact s3l.out⟩
          rw [Hs4.out] at hB
          have HB4 := lib_hid hB
          have HA4 := lib_hid (HA3.out.grown hgb (fun e => by have := Option.some.inj e; omega))
          have HG4 := HG3.grown hgb (fun k hk => by cases hk; omega)
          clear hB hgb HB3 HA3 HG3
          go_wp2_with fail
          refine (refq_any gN s4 0 5 10 15 _ s4l.out (by omega) (by omega) (by omega) (by omega) HB4.out).mono ?_
          rintro e v5 ⟨rfl, hgb, hB⟩
          obtain ⟨s5, Hs5, s5l⟩ : ∃ s, Hid (quarterS s4 0 5 10 15 = s) ∧ Hid (s.length = 16) := ⟨_, lib_hid rfl, by unfold Hid; rw [quarterS_len]; exact s4l.out⟩
          rw [Hs5.out] at hB
          have HB5 := lib_hid hB
          have HA5 := lib_hid (HA4.out.grown hgb (fun e => by have := Option.some.inj e; omega))
          have HG5 := HG4.grown hgb (fun k hk => by cases hk; omega)
          clear hB hgb HB4 HA4 HG4
          go_wp2_with fail
          refine (refq_any gN s5 1 6 11 12 _ s5l.out (by omega) (by omega) (by omega) (by omega) HB5.out).mono ?_
          rintro e v6 ⟨rfl, hgb, hB⟩
          obtain ⟨s6, Hs6, s6l⟩ : ∃ s, Hid (quarterS s5 1 6 11 12 = s) ∧ Hid (s.length = 16) := ⟨_, lib_hid rfl, by unfold Hid; rw [quarterS_len]; exact s5l.out⟩
          rw [Hs6.out] at hB
          have HB6 := lib_hid hB
          have HA6 := lib_hid (HA5.out.grown hgb (fun e => by have := Option.some.inj e; omega))
          have HG6 := HG5.grown hgb (fun k hk => by cases hk; omega)
          clear hB hgb HB5 HA5 HG5
          go_wp2_with fail
          refine (refq_any gN s6 2 7 8 13 _ s6l.out (by omega) (by omega) (by omega) (by omega) HB6.out).mono ?_
          rintro e v7 ⟨rfl, hgb, hB⟩
          obtain ⟨s7, Hs7, s7l⟩ : ∃ s, Hid (quarterS s6 2 7 8 13 = s) ∧ Hid (s.length = 16) := ⟨_, lib_hid rfl, by unfold Hid; rw [quarterS_len]; exact s6l.out⟩
          rw [Hs7.out] at hB
          have HB7 := lib_hid hB
          have HA7 := lib_hid (HA6.out.grown hgb (fun e => by have := Option.some.inj e; omega))
          have HG7 := HG6.grown hgb (fun k hk => by cases hk; omega)
          clear hB hgb HB6 HA6 HG6
          go_wp2_with fail
          refine (refq_any gN s7 3 4 9 14 _ s7l.out (by omega) (by omega) (by omega) (by omega) HB7.out).mono ?_
          rintro e v8 ⟨rfl, hgb, hB⟩
          obtain ⟨s8, Hs8, s8l⟩ : ∃ s, Hid (quarterS s7 3 4 9 14 = s) ∧ Hid (s.length = 16) := ⟨_, lib_hid rfl, by unfold Hid; rw [quarterS_len]; exact s7l.out⟩
          rw [Hs8.out] at hB
          have HB8 := lib_hid hB
          have HA8 := lib_hid (HA7.out.grown hgb (fun e => by have := Option.some.inj e; omega))
          have HG8 := HG7.grown hgb (fun k hk => by cases hk; omega)
          clear hB hgb HB7 HA7 HG7
          have HR : Hid (outN (t + 1) was = s8) := by
            unfold Hid; rw [outN, Hs0.out, round_eq s0 s0l.out]; unfold roundS
            rw [Hs1.out, Hs2.out, Hs3.out, Hs4.out, Hs5.out, Hs6.out, Hs7.out, Hs8.out]
          go_wp2
          go_roundw
          case rel => exact ⟨t + 1, by omega, by go_num, HG8, HA8, by rw [HR.out]; exact HB8⟩
          case measure => simp [intOf]; omega
        · have Ht10 : Hid (t = 10) := by unfold Hid; omega
          obtain ⟨fin, Hfin, finl⟩ : ∃ s, Hid (outN t was = s) ∧ Hid (s.length = 16) := ⟨_, lib_hid rfl, by unfold Hid; rw [outN_len]; exact wasl.out⟩
          rw [Hfin.out] at HB0
          have Hfin2 : Hid (∀ N, N = 16 → bc = bytesN fin was N) := fun N hN => Hbc.out was t N fin HF.out Ht10.out hN Hfin.out
          clear Hfin Ht10 HF Hbc
          go_wp2_with fail
          go_loopw [12, 13] (fun o i wr => ∃ (k : Nat) (A : Option Addr) (c : Nat), k ≤ 16 ∧ i = .int .i64 k ∧ o = .slice A (4 * k) c ∧ Grows v0 wr ∧ Hid (wr.ownsRow v0.heap.size 5 1 (.slice A (4 * k) c) (4 * k) ((bytesN fin was k).map b8))) (fun _ i _ => 16 - (intOf i).toNat)
          case atStart => exact ⟨0, none, 0, by omega, rfl, rfl, Grows.refl _, World.ownsRow_nil _ _ _ _⟩
          case round =>
            obtain ⟨k, A, c, hk, rfl, rfl, HG, HO⟩ := hrel
            by_cases hlt : k < 16
            · obtain ⟨sk, Hsk⟩ : ∃ x, Hid (fin.getD k 0 = x) := ⟨_, lib_hid rfl⟩
              obtain ⟨wk, Hwk⟩ : ∃ x, Hid (was.getD k 0 = x) := ⟨_, lib_hid rfl⟩
              obtain ⟨sm, Hsm, hsm⟩ : ∃ x : UInt32, Hid (sk + wk = x) ∧ IntKind.u32.wrap ((sk.toNat : Int) + (wk.toNat : Int)) = (x.toNat : Int) := ⟨_, lib_hid rfl, u32_wrap_add _ _⟩
              obtain ⟨x64, Hx64, hx64⟩ : ∃ x : UInt64, Hid (sm.toUInt64 = x) ∧ IntKind.u64.wrap (sm.toNat : Int) = (x.toNat : Int) := ⟨_, lib_hid rfl, u64_of_u32 _⟩
              have Hstep : Hid (bytesN fin was (k + 1) = bytesN fin was k ++ putLittleF x64 4) := by unfold Hid; rw [bytesN, Hsk.out, Hwk.out, Hsm.out, Hx64.out]
              have cS : Hid (∀ W, Grows wr W → W.cell? ⟨gN, k, none⟩ = some (b32 sk)) := fun W hW => by rw [← Hsk.out]; exact cell32 (HB0.out.grows (HG.trans hW)) _ (by rw [finl.out]; omega)
              have cW : Hid (∀ W, Grows wr W → W.cell? ⟨g8, k, none⟩ = some (b32 wk)) := fun W hW => by rw [← Hwk.out]; exact cell32 (HA0.out.grows (HG.trans hW)) _ (by rw [wasl.out]; omega)
              go_upto_region 24 with fail
              apply wp_region_mono 10 ((.is _, []) :: (.is _, []) :: (.is _, []) :: (.is _, []) :: (.is _, []) :: (.is _, []) :: (.is _, []) :: (.is _, []) :: (.is _, []) :: (.pr (fun v W => ∃ A n c, v = .slice A n c ∧ SB W A n c (putLittleF x64 4)), []) :: []) (by kernel_rfl) (by kernel_rfl)
              iterate 3
                apply Mono.is0
                · kernel_rfl
                · intro W hW
                  go_wp2
                  refine ⟨rfl, rfl, Grows.refl _, ?_⟩
                  unfold Oper.valAt
                  go_simp
                  rfl
                intro k1 a1 hk1 ha1
                simp only [Nat.reduceAdd] at hk1
                simp only [Act.put, List.setIfInBounds_toArray, List.set_cons_succ, List.set_cons_zero] at ha1
                subst hk1 ha1
              apply Mono.is0
              · kernel_rfl
              · intro W hW
                have hcc := cS.out W hW
                go_wp2
                refine ⟨rfl, rfl, Grows.refl _, ?_⟩
                unfold Oper.valAt
                go_simp
                rfl
              intro k1 a1 hk1 ha1
              simp only [Nat.reduceAdd] at hk1
              simp only [Act.put, List.setIfInBounds_toArray, List.set_cons_succ, List.set_cons_zero] at ha1
              subst hk1 ha1
              iterate 2
                apply Mono.is0
                · kernel_rfl
                · intro W hW
                  go_wp2
                  refine ⟨rfl, rfl, Grows.refl _, ?_⟩
                  unfold Oper.valAt
                  go_simp
                  rfl
                intro k1 a1 hk1 ha1
                simp only [Nat.reduceAdd] at hk1
                simp only [Act.put, List.setIfInBounds_toArray, List.set_cons_succ, List.set_cons_zero] at ha1
                subst hk1 ha1
              apply Mono.is0
              · kernel_rfl
              · intro W hW
                have hcc := cW.out W hW
                go_wp2
                refine ⟨rfl, rfl, Grows.refl _, ?_⟩
                unfold Oper.valAt
                go_simp
                rfl
              intro k1 a1 hk1 ha1
              simp only [Nat.reduceAdd] at hk1
              simp only [Act.put, List.setIfInBounds_toArray, List.set_cons_succ, List.set_cons_zero] at ha1
              subst hk1 ha1
              iterate 2
                apply Mono.is0
                · kernel_rfl
                · intro W hW
                  go_wp2
                  refine ⟨rfl, rfl, Grows.refl _, ?_⟩
                  unfold Oper.valAt
                  go_simp
                  rfl
                intro k1 a1 hk1 ha1
                simp only [Nat.reduceAdd] at hk1
                simp only [Act.put, List.setIfInBounds_toArray, List.set_cons_succ, List.set_cons_zero] at ha1
                subst hk1 ha1
              apply Mono.pr0
              · kernel_rfl
              · exact fun v W W' hW ⟨A, n, c, h1, h2⟩ => ⟨A, n, c, h1, h2.grows hW⟩
              · intro W hW 
                go_wp2_with fail
                refine (refPutLittle_any x64 4 W (by omega)).mono ?_
                rintro e w1 ⟨A1, n1, c1, hn1, rfl, hg1, ho1⟩
                go_wp2
                exact ⟨rfl, rfl, hg1, A1, n1, c1, rfl, SB.own ho1⟩
              intro v9
              intro k1 a1 hk1 ha1
              simp only [Nat.reduceAdd] at hk1
              simp only [Act.put, List.setIfInBounds_toArray, List.set_cons_succ, List.set_cons_zero] at ha1
              subst hk1 ha1
              refine Mono.done ?_
              intro wm hgm
              simp only [allF, List.drop_succ_cons, List.drop_zero]
              intro g9
              obtain ⟨A2, n2, c2, rfl, hs2⟩ := g9
              obtain rfl : n2 = 4 := by have := hs2.len; simp [putLittleF] at this; omega
              have HS2 := lib_hid hs2
              have HO2 := lib_hid (own_grows HO.out hgm)
              have HG2 := HG.trans hgm
              have hz2 := HG2.le
              clear hs2 HO HG cS cW
              go_wp2_with (refine wpList_append rfl _ _ 22 rfl v0.heap.size 5 (.int .u8 0) 1 Try.underlying22 Try.infoByte rfl (.slice A (4 * k) c) (4 * k) _ rfl HO2.out A2 4 c2 _ rfl HS2.out (b8_one _) (by omega) (by omega) hz2 ?_; intro A3 c3 w3 hO3 hb3 hg3)
              have HO3 : Hid (w3.ownsRow v0.heap.size 5 1 (.slice A3 (4 * (k + 1)) c3) (4 * (k + 1)) ((bytesN fin was (k + 1)).map b8)) := by unfold Hid; rw [Hstep.out, List.map_append]; exact hO3
              have HG3 : Grows v0 w3 := below_trans HG2 (hb3.mono (Nat.le_refl _))
              clear hO3 hb3 hg3
              go_roundw
              case rel => exact ⟨k + 1, A3, c3, by omega, by go_num, rfl, HG3, HO3⟩
              case measure => simp [intOf]; omega
            · have Hk16 : Hid (k = 16) := by unfold Hid; omega
              have hout : Hid (wr.ownsRow v0.heap.size 5 1 (.slice A (4 * k) c) (4 * k) (bc.map b8)) := by unfold Hid; rw [Hfin2.out k Hk16.out]; exact HO.out
              have hln : Hid (4 * k = bc.length) := by unfold Hid; rw [Hfin2.out k Hk16.out, bytesN_len]
              have hgall := (hgw6.trans HG0).trans HG
              have hle := (hgw6.trans HG0).le
              clear HO Hfin2
              go_wp2
              go_ret
              exact ⟨A, 4 * k, c, hln, rfl, hgall, own_base hout.out hle⟩

theorem refBlock_any (A B : Option Addr) (c d : Nat) (key nonce : List UInt8) (n : UInt32) (w : World) (hk : SB w A 32 c key) (hn : SB w B 12 d nonce) :
    Calls Try.prog 29 #[.slice A 32 c, .slice B 12 d, b32 n] w (NewB 5 w (blockC key nonce n)) :=
  refBlock_gen A B c d key nonce n w hk hn _ (blockC_len key nonce n) (fun was T N fin h1 h2 h3 h4 => by subst h1 h2 h3 h4; exact wordsN_all _ _)

end Go.Proofs.Ytgolndfimhogoaa
