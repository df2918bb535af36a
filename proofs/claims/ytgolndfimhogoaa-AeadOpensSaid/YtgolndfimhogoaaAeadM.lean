/-
  Aead8, Aead9, Aead10 in one text.
-/
import Derived.Test.YtgolndfimhogoaaAead6
import Derived.Deep.Cut
import Derived.Test.YtgolndfimhogoaaPolyM
import Derived.Test.YtgolndfimhogoaaRefPad
import Derived.Test.YtgolndfimhogoaaChacha12
import Derived.Deep.RegionHeldLaw
namespace Go.Proofs.Ytgolndfimhogoaa
open Go Go.RowKit
set_option linter.unusedSimpArgs false

theorem own_none (w : World) (b : Nat) : OwnAt w b none 0 0 [] := OwnAt.of_own (e := 5) (World.ownsRow_nil _ _ _ _)

set_option maxRecDepth 100000 in
set_option maxHeartbeats 4000000 in
theorem does_bad (F : FuncId) (caps : Array Value) (A B : Option Addr) (nk c nn d : Nat) (w : World) (hbad : ¬ (nk = 32 ∧ nn = 12)) :
    Calls Try.prog 15 #[.slice A nk c, .slice B nn d, .func (.func F) #[] caps] w (Res2 w [] (if nk ≠ 32 then 5 else 6)) := by
  by_cases h1 : nk = 32
  · subst h1
    have h2 : nn ≠ 12 := fun e => hbad ⟨rfl, e⟩
    have h2' : ¬ (nn : Int) = 12 := by omega
    have h2'' : ((nn : Int) != 12) = true := by simp; omega
    rw [if_neg (by decide)]
    clear hbad h2
    go_enter Try.func15, Try.ntmps15
    go_wp2
    go_ret2
    exact ⟨none, 0, 0, lib_hid rfl, rfl, (Grows.refl w).alloc _, own_none _ _⟩
  · have h1' : ¬ (nk : Int) = 32 := by omega
    have h1'' : ((nk : Int) != 32) = true := by simp; omega
    rw [if_pos h1]
    clear hbad h1
    go_enter Try.func15, Try.ntmps15
    go_wp2
    go_ret2
    exact ⟨none, 0, 0, lib_hid rfl, rfl, (Grows.refl w).alloc _, own_none _ _⟩

set_option maxRecDepth 100000 in
set_option maxHeartbeats 4000000 in
theorem seal_bad (D E A B : Option Addr) (nk c0 nn d0 n c m d : Nat) (w : World) (hbad : ¬ (nk = 32 ∧ nn = 12)) :
    Calls Try.prog 9 #[.slice D nk c0, .slice E nn d0, .slice A n c, .slice B m d] w (Res2 w [] (if nk ≠ 32 then 5 else 6)) := by
  obtain ⟨W0, HW0, hW0, hg0⟩ : ∃ W0 : World, Hid (W0 = (w.alloc (.cells #[.slice A n c] 22)).alloc (.cells #[.slice B m d] 22)) ∧ W0.heap.size = w.heap.size + 2 ∧ Grows w W0 := ⟨_, lib_hid rfl, by simp, ((Grows.refl w).alloc _).alloc _⟩
  have Hd := lib_hid (does_bad 16 #[.pointer (some ⟨w.heap.size + 1, 0, none⟩), .pointer (some ⟨w.heap.size, 0, none⟩)] D E nk c0 nn d0 W0 hbad)
  obtain ⟨err, He⟩ : ∃ x : Int, Hid ((if nk ≠ 32 then 5 else 6) = x) := ⟨_, lib_hid rfl⟩
  rw [He.out] at Hd
  rw [He.out]
  have HW0' := HW0.out
  clear hbad hW0 He
  go_enter Try.func9, Try.ntmps9
  go_upto_region 1 with fail
  rw [← HW0']
  clear HW0'
  go_wp2_with fail
  refine Hd.out.mono ?_
  rintro e w1 ⟨A1, n1, c1, hn1, rfl, hg1, ho1⟩
  have HO1 := lib_hid ho1
  clear ho1
  go_wp2
  go_ret2
  exact ⟨A1, n1, c1, hn1, rfl, hg0.trans hg1, own_at_base HO1.out hg0.le⟩

set_option maxRecDepth 100000 in
set_option maxHeartbeats 4000000 in
theorem open_bad (D E A B : Option Addr) (nk c0 nn d0 n c m d : Nat) (w : World) (hbad : ¬ (nk = 32 ∧ nn = 12)) :
    Calls Try.prog 13 #[.slice D nk c0, .slice E nn d0, .slice A n c, .slice B m d] w (Res2 w [] (if nk ≠ 32 then 5 else 6)) := by
  obtain ⟨W0, HW0, hW0, hg0⟩ : ∃ W0 : World, Hid (W0 = (w.alloc (.cells #[.slice A n c] 22)).alloc (.cells #[.slice B m d] 22)) ∧ W0.heap.size = w.heap.size + 2 ∧ Grows w W0 := ⟨_, lib_hid rfl, by simp, ((Grows.refl w).alloc _).alloc _⟩
  have Hd := lib_hid (does_bad 21 #[.pointer (some ⟨w.heap.size + 1, 0, none⟩), .pointer (some ⟨w.heap.size, 0, none⟩)] D E nk c0 nn d0 W0 hbad)
  obtain ⟨err, He⟩ : ∃ x : Int, Hid ((if nk ≠ 32 then 5 else 6) = x) := ⟨_, lib_hid rfl⟩
  rw [He.out] at Hd
  rw [He.out]
  have HW0' := HW0.out
  clear hbad hW0 He
  go_enter Try.func13, Try.ntmps13
  go_upto_region 1 with fail
  rw [← HW0']
  clear HW0'
  go_wp2_with fail
  refine Hd.out.mono ?_
  rintro e w1 ⟨A1, n1, c1, hn1, rfl, hg1, ho1⟩
  have HO1 := lib_hid ho1
  clear ho1
  go_wp2
  go_ret2
  exact ⟨A1, n1, c1, hn1, rfl, hg0.trans hg1, own_at_base HO1.out hg0.le⟩

end Go.Proofs.Ytgolndfimhogoaa

namespace Go.Proofs.Ytgolndfimhogoaa
open Go Go.RowKit
set_option linter.unusedSimpArgs false

theorem step_append_at {P : Program} {ops : Array Oper} {o : Oper} {a : Act} {w : World} {K : Act → World → Prop} {Q : Exit → Act → World → Prop} {E : Prop}
    (hg : o.guard = none) (s x : Operand) (t tx : TypeId) (ho : o.op = .call { callee := .builtin .append, args := #[s, x], argTypes := #[t, tx] })
    (base : Nat) (e : TypeId) (z : Value) (bytes : Nat) (ht : P.underlying t = some (.slice e)) (hinfo : (P.info? e).map (fun i => (i.zero, i.size, i.bytes)) = some (some z, 1, bytes)) (hz1 : z.cells = #[z])
    (A : Option Addr) (n c : Nat) (xs : List Value) (hs : a.eval s = .slice A n c) (hown : OwnAt w base A n c xs) (xv : Value) (hx : a.eval x = xv) (m : Nat) (news : List Value) (hsrc : Src P 1 tx xv m news w)
    (hbytes : (n + m) * bytes ≤ 140737488355328) (hb : 0 < bytes) (hbase : base ≤ w.heap.size)
    (h : ∀ A' c' w', OwnAt w' base A' (n + m) c' (xs ++ news) → w.grownBy w' (blkOf A) → (blkOf A' = blkOf A ∨ blkOf A' = some w.heap.size) → K (a.put o.dst (.slice A' (n + m) c')) w') :
    if Region.wanted o (yielded ops a.tmps) = true then Oper.wp P o a w K Q else E := by
  have hw : Region.wanted o (yielded ops a.tmps) = true := by simp [Region.wanted, hg]
  rw [if_pos hw]
  obtain ⟨A', c', w', hrun, h2, h3, h4⟩ := run_append_at (P := P) (w := w) base t tx o.type e z bytes ht hinfo hz1 A n c xs hown xv m news hsrc hbytes hb hbase
  unfold Oper.wp
  simp only [execOp, ho, resolve, invoke, builtin, Sem.run_bind, Sem.run_pure, Result.andThen_ok, List.map_toArray, List.map_cons, List.map_nil, hs, hx, hrun]
  exact h A' c' w' h2 h3 h4
def fillL (N : Nat) (b : List UInt8) (k : Nat) : List UInt8 := b.take k ++ List.replicate (N - k) 0
theorem fillL_succ (N : Nat) (b : List UInt8) (k : Nat) (hk : k < N) (hl : k < b.length) : (fillL N b k).set k (b.getD k 0) = fillL N b (k + 1) := by
  unfold fillL
  rw [List.set_append_right _ _ (by rw [List.length_take]; omega), List.length_take, Nat.min_eq_left (by omega), Nat.sub_self, show N - k = (N - (k + 1)) + 1 by omega, List.replicate_succ, List.set_cons_zero,
    List.take_succ_eq_append_getElem (by omega), List.append_assoc, List.getD_eq_getElem?_getD, List.getElem?_eq_getElem (by omega)]
  rfl
theorem fillL_len (N : Nat) (b : List UInt8) (k : Nat) (hk : k ≤ N) (hl : k ≤ b.length) : (fillL N b k).length = N := by
  unfold fillL; rw [List.length_append, List.length_take, List.length_replicate]; omega
theorem fillL_all (N : Nat) (b : List UInt8) : fillL N b N = b.take N := by unfold fillL; simp
set_option maxRecDepth 100000 in
theorem zero32 : (Try.prog.info? 37).bind (·.zero) = some (.agg ((List.replicate 32 (0 : UInt8)).map b8).toArray) := by kernel_rfl
theorem refPutLittle_nat (n : Nat) (h : n < 18446744073709551616) (w : World) : Calls Try.prog 31 #[.int .u64 (n : Int), .int .i64 8] w (NewB 5 w (putLittleF (UInt64.ofNat n) 8)) := by
  have := refPutLittle_any (UInt64.ofNat n) 8 w (by omega)
  rw [UInt64.toNat_ofNat', Nat.mod_eq_of_lt h] at this
  exact this
theorem blk_range {w : World} {g : Nat} {t : TypeId} {cs : List Value} (h : Blk w g t cs.toArray) : w.rangeAt g 0 cs := fun j v hv => by
  rw [Nat.zero_add, h.cell, List.getElem?_toArray]; exact hv
theorem pad0_eq (xs : List UInt8) (n : Nat) (h : xs.length = n) : List.replicate (padN n) 0 = pad0 xs := by unfold pad0 padN; rw [h]
theorem pad0_le (xs : List UInt8) : (pad0 xs).length ≤ 15 := by unfold pad0; rw [List.length_replicate]; omega

set_option maxRecDepth 100000 in
set_option maxHeartbeats 4000000 in
theorem refTag_any (A B C D : Option Addr) (c0 d0 n c m d : Nat) (key nonce aad sealed_ : List UInt8) (w : World) (hk : SB w A 32 c0 key) (hn : SB w B 12 d0 nonce) (ha : SB w C n c aad) (hb : SB w D m d sealed_) (hln : n ≤ 100000) (hlm : m ≤ 100000) :
    Calls Try.prog 20 #[.slice A 32 c0, .slice B 12 d0, .slice C n c, .slice D m d] w (NewB 5 w (tagF key nonce aad sealed_)) := by
  have hal := ha.len
  have hbl := hb.len
  obtain ⟨blk, Hblk, blkl⟩ : ∃ x, Hid (blockC key nonce 0 = x) ∧ Hid (x.length = 64) := ⟨_, lib_hid rfl, blockC_len _ _ _⟩
  obtain ⟨one, Hone, onel⟩ : ∃ x, Hid (blk.take 32 = x) ∧ Hid (x.length = 32) := ⟨_, lib_hid rfl, by unfold Hid; rw [List.length_take, blkl.out]; rfl⟩
  obtain ⟨p1, Hp1, p1l⟩ : ∃ x, Hid (aad ++ pad0 aad = x) ∧ Hid (x.length ≤ 100015) := ⟨_, lib_hid rfl, by unfold Hid; rw [List.length_append]; have := pad0_le aad; omega⟩
  obtain ⟨p2, Hp2, p2l⟩ : ∃ x, Hid (sealed_ ++ pad0 sealed_ = x) ∧ Hid (x.length ≤ 100015) := ⟨_, lib_hid rfl, by unfold Hid; rw [List.length_append]; have := pad0_le sealed_; omega⟩
  obtain ⟨q1, Hq1, q1l⟩ : ∃ x, Hid (putLittleF (UInt64.ofNat n) 8 = x) ∧ Hid (x.length = 8) := ⟨_, lib_hid rfl, by unfold Hid; simp [putLittleF]⟩
  obtain ⟨q2, Hq2, q2l⟩ : ∃ x, Hid (putLittleF (UInt64.ofNat m) 8 = x) ∧ Hid (x.length = 8) := ⟨_, lib_hid rfl, by unfold Hid; simp [putLittleF]⟩
  obtain ⟨mac, Hmac, macl⟩ : ∃ x, Hid (p1 ++ p2 ++ q1 ++ q2 = x) ∧ Hid (x.length ≤ 1000000) := ⟨_, lib_hid rfl, by unfold Hid; have := p1l.out; have := p2l.out; have := q1l.out; have := q2l.out; simp only [List.length_append]; omega⟩
  obtain ⟨tg, Htg⟩ : ∃ x, Hid (tagF key nonce aad sealed_ = x) := ⟨_, lib_hid rfl⟩
  have HT : Hid (refPolyF one mac = tg) := by
    unfold Hid
    rw [refPoly_eq one mac onel.out, ← Htg.out, tagF, Hblk.out, Hone.out, macF, hal, hbl, Hq1.out, Hq2.out, Hp1.out, ← Hmac.out, ← Hp2.out]
    simp only [List.append_assoc]
  rw [Htg.out]
  have HBlk : Hid (∀ W, SB W A 32 c0 key → SB W B 12 d0 nonce → Calls Try.prog 29 #[.slice A 32 c0, .slice B 12 d0, .int .u32 0] W (NewB 5 W blk)) := fun W h1 h2 => by
    have := refBlock_any A B c0 d0 key nonce 0 W h1 h2
    rw [Hblk.out] at this; exact this
  have HPa : Hid (∀ W, SB W C n c aad → Calls Try.prog 30 #[.slice C n c] W (NewB 5 W p1)) := fun W h => by
    have := refPadded_any aad C n c W h (by omega)
    rw [pad0_eq aad n hal, Hp1.out] at this; exact this
  have HPb : Hid (∀ W, SB W D m d sealed_ → Calls Try.prog 30 #[.slice D m d] W (NewB 5 W p2)) := fun W h => by
    have := refPadded_any sealed_ D m d W h (by omega)
    rw [pad0_eq sealed_ m hbl, Hp2.out] at this; exact this
  have HL1 : Hid (∀ W, Calls Try.prog 31 #[.int .u64 (n : Int), .int .i64 8] W (NewB 5 W q1)) := fun W => by rw [← Hq1.out]; exact refPutLittle_nat n (by omega) W
  have HL2 : Hid (∀ W, Calls Try.prog 31 #[.int .u64 (m : Int), .int .i64 8] W (NewB 5 W q2)) := fun W => by rw [← Hq2.out]; exact refPutLittle_nat m (by omega) W
  have HSu : Hid (∀ (W : World) (X : Option Addr) (l e : Nat), l = mac.length → SB W X l e mac → Calls Try.prog 32 #[.agg (one.map b8).toArray, .slice X l e] W (NewB 5 W tg)) := fun W X l e hl h => by
    have := refSum05_any one mac onel.out X l e W h (by rw [hl]; exact macl.out)
    rw [HT.out] at this; exact this
  have HS := lib_hid (And.intro hk (And.intro hn (And.intro ha hb)))
  have hcm : n ≤ c ∧ c ≤ maxLen ∧ m ≤ d ∧ d ≤ maxLen := ⟨ha.cap, ha.max, hb.cap, hb.max⟩
  obtain ⟨hcm1, hcm2, hcm3, hcm4⟩ := hcm
  unfold maxLen at hcm2 hcm4
  clear hk hn ha hb hal hbl
  go_enter Try.func20, Try.ntmps20
  go_wp2_with fail
  refine (HBlk.out _ HS.out.1 HS.out.2.1).mono ?_
  rintro e w1 ⟨A1, n1, c1, hn1, rfl, hg1, ho1⟩
  have HS1 : Hid (SB w1 A1 n1 c1 blk) := SB.own ho1
  have Hn1 : Hid (n1 = 64) := by unfold Hid; rw [hn1, blkl.out]
  obtain ⟨b1, o1, rfl, hb1, hc1⟩ := HS1.out.at (by rw [Hn1.out]; omega)
  have HC1 : Hid (∀ W, Grows w1 W → ∀ j, j < 64 → W.cell? ⟨b1, o1 + j, none⟩ = some (.int .u8 ((blk.getD j 0).toNat : Int))) := fun W hW j hj => by
    obtain ⟨b', o', e', _, hc⟩ := (HS1.out.grows hW).at (by rw [Hn1.out]; omega)
    cases e'
    have hjl : j < blk.length := by rw [blkl.out]; exact hj
    rw [hc j hjl, List.getD_eq_getElem?_getD, List.getElem?_eq_getElem hjl]; rfl
  have hn1b : (n1 : Int) ≤ 64 ∧ (64 : Int) ≤ (n1 : Int) := by have := Hn1.out; omega
  obtain ⟨hn1b1, hn1b2⟩ := hn1b
  clear ho1 hn1 hc1 hb1
  obtain ⟨g10, Hg10⟩ : ∃ x, Hid (w1.heap.size = x) := ⟨_, lib_hid rfl⟩
  obtain ⟨W2, HW2⟩ : ∃ X : World, Hid (X = w1.alloc (.cells ((List.replicate 32 (0 : UInt8)).map b8).toArray 37)) := ⟨_, lib_hid rfl⟩
  have hg2 : Grows w1 W2 := by rw [HW2.out]; exact (Grows.refl _).alloc _
  have HF2 : Hid (Blk W2 g10 37 ((fillL 32 blk 0).map b8).toArray) := by unfold Hid; rw [HW2.out, ← Hg10.out]; exact Blk.new w1 _ _
  have HW2' := HW2.out
  clear HW2
  go_upto_region 3 with (refine wpList_alloc_arr rfl 37 rfl _ zero32 ?_)
  rw [← HW2', Hg10.out]
  clear HW2'
  go_wp2_with fail
  go_loopw [11] (fun v wr => ∃ k : Nat, k ≤ 32 ∧ v = .int .i64 (k : Int) ∧ Grows w1 wr ∧ Hid (Blk wr g10 37 ((fillL 32 blk k).map b8).toArray)) (fun v _ => 32 - (intOf v).toNat)
  case atStart => exact ⟨0, by omega, rfl, hg2, HF2⟩
  case round =>
    clear HF2 hg2
    obtain ⟨k, hk, rfl, hgr, HF⟩ := hrel
    by_cases hlt : k < 32
    · have hki : (k : Int) < 32 := by omega
      have hkn : (k : Int) < (n1 : Int) := by omega
      obtain ⟨x, Hx⟩ : ∃ x, Hid (blk.getD k 0 = x) := ⟨_, lib_hid rfl⟩
      have c0 : wr.cell? ⟨b1, o1 + k, none⟩ = some (.int .u8 (x.toNat : Int)) := by rw [← Hx.out]; exact HC1.out wr hgr k (by omega)
      obtain ⟨y, Hy⟩ : ∃ x, Hid ((fillL 32 blk k).getD k 0 = x) := ⟨_, lib_hid rfl⟩
      have c2 : wr.cell? ⟨g10, k, none⟩ = some (.int .u8 (y.toNat : Int)) := by rw [← Hy.out]; exact cell8 HF.out k (by rw [fillL_len 32 blk k hk (by rw [blkl.out]; omega)]; omega)
      have f2 := HF.out.frozen k
      obtain ⟨W3, HW3⟩ : ∃ X : World, Hid (X = wr.setCell ⟨g10, k, none⟩ (b8 x)) := ⟨_, lib_hid rfl⟩
      have HF3 : Hid (Blk W3 g10 37 ((fillL 32 blk (k + 1)).map b8).toArray) := by
        have := blk_set8 HF.out k x
        unfold Hid; rw [HW3.out, ← fillL_succ 32 blk k hlt (by rw [blkl.out]; omega), Hx.out]
        exact this
      have hg3 : Grows w1 W3 := by rw [HW3.out]; exact hgr.setCell (p := ⟨g10, k, none⟩) (by show w1.heap.size ≤ g10; rw [Hg10.out]; exact Nat.le_refl _) _
      have HW3' := HW3.out
      have HLt := lib_hid hlt
      clear HF hgr HW3 hlt
      go_upto_region 5 with fail
      rw [← HW3']
      clear HW3' c0 c2 f2
      go_wp2_with fail
      go_roundw
      case rel => exact ⟨k + 1, HLt.out, by go_num, hg3, HF3⟩
      case measure => simp [intOf]; omega
    · have Hk : Hid (k = 32) := by unfold Hid; omega
      have hki : ¬ (k : Int) < 32 := by omega
      have HOne : Hid (Blk wr g10 37 (one.map b8).toArray) := by have := HF.out; rw [Hk.out, fillL_all, Hone.out] at this; exact this
      have hgw := hg1.trans hgr
      have HSr : Hid (SB wr C n c aad ∧ SB wr D m d sealed_) := ⟨HS.out.2.2.1.grows hgw, HS.out.2.2.2.grows hgw⟩
      clear HF hlt hk hgr
      go_wp2_with fail
      refine (HPa.out _ HSr.out.1).mono ?_
      rintro e w3 ⟨A3, n3, c3, hn3, rfl, hg3, ho3⟩
      have HO3 : Hid (OwnAt w3 wr.heap.size A3 n3 c3 (p1.map b8)) := OwnAt.of_own ho3
      have Hn3 : Hid (n3 = p1.length) := hn3
      have HSb : Hid (SB w3 D m d sealed_) := HSr.out.2.grows hg3
      clear ho3 hn3 hki
      go_wp2_with fail
      refine (HPb.out _ HSb.out).mono ?_
      rintro e w4 ⟨A4, n4, c4, hn4, rfl, hg4, ho4⟩
      have HS4 : Hid (SB w4 A4 n4 c4 p2) := SB.own ho4
      have HO4 := lib_hid (HO3.out.grows hg4)
      have hle4 : wr.heap.size ≤ w4.heap.size := Nat.le_trans hg3.le hg4.le
      have hn3b : n3 ≤ 100015 := by have := Hn3.out; have := p1l.out; omega
      have Hn4 : Hid (n4 = p2.length) := hn4
      have hn4b : n4 ≤ 100015 := by have := Hn4.out; have := p2l.out; omega
      have hg34 := hg3.trans hg4
      clear ho4 hn4 hg3 hg4 HO3 HSb
      go_upto_region 8 with (at_builtin; refine wpList_append_at rfl _ _ 22 22 rfl wr.heap.size 5 (.int .u8 0) 1 Try.underlying22 Try.infoByte rfl A3 n3 c3 _ rfl HO4.out (.slice A4 n4 c4) rfl n4 _ (Row.src HS4.out Try.underlying22 (b8_one p2)) (by omega) (by omega) hle4 ?_; intro A5 c5 w5 hO5 hG5 hl5)
      obtain ⟨n5, Hn5⟩ : ∃ x, Hid (n3 + n4 = x) := ⟨_, lib_hid rfl⟩
      rw [Hn5.out] at hO5 ⊢
      have HO5 : Hid (OwnAt w5 wr.heap.size A5 n5 c5 ((p1 ++ p2).map b8)) := by unfold Hid; rw [List.map_append]; exact hO5
      have hg5 : Grows wr w5 := hg34.grown hG5 (fun k hk => by obtain ⟨q, hq, hqb⟩ := Option.map_eq_some_iff.1 hk; have := HO4.out.base_le q hq; omega)
      have hn5b : n5 ≤ 200030 := by have := Hn5.out; omega
      have HSr5 := lib_hid (HSr.out.1.grows hg5)
      clear hO5 hG5 hl5 HO4 HS4 hle4 hg34
      go_wp2_with fail
      refine (HL1.out w5).mono ?_
      rintro e w6 ⟨A6, n6, c6, hn6, rfl, hg6, ho6⟩
      have HS6 : Hid (SB w6 A6 n6 c6 q1) := SB.own ho6
      have HO6 := lib_hid (HO5.out.grows hg6)
      have hle6 : wr.heap.size ≤ w6.heap.size := Nat.le_trans hg5.le hg6.le
      have Hn6 : Hid (n6 = 8) := by unfold Hid; rw [hn6, q1l.out]
      have hn6b : n6 ≤ 8 := by have := Hn6.out; omega
      have hg56 := hg5.trans hg6
      clear ho6 hn6 hg5 hg6 HO5 HSr5
      go_upto_region 9 with (at_builtin; refine wpList_append_at rfl _ _ 22 22 rfl wr.heap.size 5 (.int .u8 0) 1 Try.underlying22 Try.infoByte rfl A5 n5 c5 _ rfl HO6.out (.slice A6 n6 c6) rfl n6 _ (Row.src HS6.out Try.underlying22 (b8_one q1)) (by omega) (by omega) hle6 ?_; intro A7 c7 w7 hO7 hG7 hl7)
      obtain ⟨n7, Hn7⟩ : ∃ x, Hid (n5 + n6 = x) := ⟨_, lib_hid rfl⟩
      rw [Hn7.out] at hO7 ⊢
      have HO7 : Hid (OwnAt w7 wr.heap.size A7 n7 c7 ((p1 ++ p2 ++ q1).map b8)) := by unfold Hid; rw [List.map_append]; exact hO7
      have hg7 : Grows wr w7 := hg56.grown hG7 (fun k hk => by obtain ⟨q, hq, hqb⟩ := Option.map_eq_some_iff.1 hk; have := HO6.out.base_le q hq; omega)
      have hn7b : n7 ≤ 200040 := by have := Hn7.out; omega
      have hmb : (m : Int) ≤ 100000 := by omega
      have hmw : IntKind.u64.wrap (m : Int) = (m : Int) := by rw [IntKind.wrap_u64]; omega
      have Hg7 := lib_hid hg7
      have HOne7 := lib_hid (HOne.out.grows hg7)
      have hS7 : w7.rangeAt g10 0 (one.map b8) := blk_range HOne7.out
      have hu1 : Try.prog.underlying 37 = some (.array 32 5) := Try.underlying37
      have hu3 : (one.map b8).length = 32 := by rw [List.length_map, onel.out]
      have hu2 : (Try.prog.info? 37).map (·.size) = some (one.map b8).length := by rw [hu3]; exact Try.size32q
      have hu4 := b8_one one
      have H10 := lib_hid HOne.out.lt
      clear hO7 hG7 hl7 HO6 HS6 hle6 hg56 hg7
      go_region_held_law (fun w' => w'.rangeAt g10 0 (one.map b8)) (first | assumption | (simp only [World.rangeAt_drew]; assumption))
        (first
          | (go_at_call 31; refine (HL2.out _).mono ?_; rintro e w8 ⟨A8, n8, c8, hn8, rfl, hg8, ho8⟩; have hgd8 : Grows w7 w8 := (Grows.refl w7).drew.trans hg8; have HO8 := lib_hid (HO7.out.grows hgd8); have HS8 : Hid (SB w8 A8 n8 c8 q2) := SB.own ho8; have Hg8 := lib_hid (Hg7.out.trans hgd8); have hle8 : wr.heap.size ≤ w8.heap.size := Hg8.out.le; have HOne8 := lib_hid (HOne7.out.grows hgd8); have hS8 : w8.rangeAt g10 0 (one.map b8) := blk_range HOne8.out; have h8l : n8 = q2.length := hn8; have hn8b : n8 ≤ 8 := (by have := q2l.out; omega); clear h8l; clear ho8 hn8 hg8 hgd8)
          | (refine step_append_at rfl _ _ 22 22 rfl wr.heap.size 5 (.int .u8 0) 1 Try.underlying22 Try.infoByte rfl A7 n7 c7 _ rfl HO8.out (.slice A8 n8 c8) rfl n8 _ (Row.src HS8.out Try.underlying22 (b8_one q2)) (by omega) (by omega) hle8 ?_; intro A9 c9 w9 hO9 hG9 hl9; have HS9 : Hid (SB w9 A9 (n7 + n8) c9 mac) := (by rw [← List.map_append, Hmac.out] at hO9; exact hO9.row); have Hg9 : Hid (Grows wr w9) := Hg8.out.grown hG9 (fun k hk => by obtain ⟨q, hq, hqb⟩ := Option.map_eq_some_iff.1 hk; have := HO8.out.base_le q hq; omega); have hS9 : w9.rangeAt g10 0 (one.map b8) := blk_range (HOne.out.grows Hg9.out); have Hn9 : Hid (n7 + n8 = mac.length) := (by unfold Hid; have h1 := HS9.out.len; omega); clear hO9 hG9 hl9)
          | (go_at_call 32; refine (HSu.out _ _ _ _ Hn9.out HS9.out).mono ?_; rintro e w10 ⟨A10, n10, c10, hn10, rfl, hg10, ho10⟩; have hS10 : w10.rangeAt g10 0 (one.map b8) := blk_range (HOne.out.grows (Hg9.out.trans hg10))))
      go_wp2
      go_ret
      exact newB_mk rfl hn10 (hgw.trans (Hg9.out.trans hg10)) (own_base ho10 (hgw.trans Hg9.out).le)

end Go.Proofs.Ytgolndfimhogoaa

namespace Go.Proofs.Ytgolndfimhogoaa
open Go Go.RowKit
set_option linter.unusedSimpArgs false
set_option linter.unusedVariables false


theorem run_sl_l9 {P : Program} {t e : TypeId} (ht : P.underlying t = some (.slice e)) (hs : (P.info? e).map (·.size) = some 1) (bk off n c lo : Nat) (l : Int) (hl : l = lo) (h1 : lo ≤ n) (h3 : lo < c) (W : World) :
    Sem.run P (Instr.slice t (.slice (some ⟨bk, off, none⟩) n c) (some (.int .i64 l)) none none) W = .ok (.slice (some ⟨bk, off + lo, none⟩) (n - lo) (c - lo)) W := by
  have e2 : P.elem t = e := by simp [Program.elem, ht]
  obtain ⟨i, hi', hi1⟩ := Option.map_eq_some_iff.1 hs
  have hz : (sizeOf e).run P W = .ok 1 W := by simp [sizeOf, typeInfo, hi', hi1]
  subst hl
  rw [run_slice_l (w := W) t (some ⟨bk, off, none⟩) n c (by rw [e2]; exact ht) .i64 lo (by omega) (by omega), e2, hz]
  simp only [Result.andThen_ok, sliced, Int.toNat_natCast, Nat.mul_one]
  rw [if_neg (by omega)]
  simp [add_zero_spot]
theorem run_sl_h9 {P : Program} {t e : TypeId} (ht : P.underlying t = some (.slice e)) (hs : (P.info? e).map (·.size) = some 1) (bk off n c hi : Nat) (h : Int) (hh : h = hi) (h1 : hi ≤ c) (W : World) :
    Sem.run P (Instr.slice t (.slice (some ⟨bk, off, none⟩) n c) none (some (.int .i64 h)) none) W = .ok (.slice (some ⟨bk, off, none⟩) hi c) W := by
  have e2 : P.elem t = e := by simp [Program.elem, ht]
  obtain ⟨i, hi', hi1⟩ := Option.map_eq_some_iff.1 hs
  have hz : (sizeOf e).run P W = .ok 1 W := by simp [sizeOf, typeInfo, hi', hi1]
  subst hh
  rw [run_slice_h (w := W) t (some ⟨bk, off, none⟩) n c (by rw [e2]; exact ht) .i64 hi (by omega) (by omega), e2, hz]
  simp only [Result.andThen_ok, sliced, Int.toNat_natCast, Nat.sub_zero, Nat.zero_mul]
  split <;> simp_all [add_zero_spot]

set_option maxRecDepth 100000 in
set_option maxHeartbeats 4000000 in
theorem refSeal_any (A B C D : Option Addr) (c0 d0 n c m d : Nat) (key nonce aad bs : List UInt8) (w : World) (hk : SB w A 32 c0 key) (hn : SB w B 12 d0 nonce) (ha : SB w C n c aad) (hb : SB w D m d bs) (hln : n ≤ 100000) (hlm : m ≤ 100000) :
    Calls Try.prog 12 #[.slice A 32 c0, .slice B 12 d0, .slice C n c, .slice D m d] w (NewB 5 w (sealF key nonce aad bs)) := by
  have hbl := hb.len
  obtain ⟨ct, Hct, ctl⟩ : ∃ x, Hid (cryptF key nonce 1 bs = x) ∧ Hid (x.length = m) := ⟨_, lib_hid rfl, by unfold Hid; rw [cryptF_len, hbl]⟩
  obtain ⟨tg, Htg, tgl⟩ : ∃ x, Hid (tagF key nonce aad ct = x) ∧ Hid (x.length = 16) := ⟨_, lib_hid rfl, tagF_len _ _ _ _⟩
  have HF : Hid (sealF key nonce aad bs = ct ++ tg) := by unfold Hid sealF; rw [Hct.out, Htg.out]
  rw [HF.out]
  have HCr : Hid (∀ W, SB W A 32 c0 key → SB W B 12 d0 nonce → SB W D m d bs → Calls Try.prog 19 #[.slice A 32 c0, .slice B 12 d0, .int .u32 1, .slice D m d] W (NewB 5 W ct)) := fun W h1 h2 h3 => by
    have := refCrypt_any A B D c0 d0 m d key nonce bs 1 W h1 h2 h3 hlm
    rw [Hct.out] at this; exact this
  have HTg : Hid (∀ W X l e, l ≤ 100000 → SB W A 32 c0 key → SB W B 12 d0 nonce → SB W C n c aad → SB W X l e ct → Calls Try.prog 20 #[.slice A 32 c0, .slice B 12 d0, .slice C n c, .slice X l e] W (NewB 5 W tg)) := fun W X l e hl h1 h2 h3 h4 => by
    rw [← Htg.out]; exact refTag_any A B C X c0 d0 n c l e key nonce aad ct W h1 h2 h3 h4 hln hl
  have HS := lib_hid (And.intro hk (And.intro hn (And.intro ha hb)))
  clear hk hn ha hb hbl HF
  go_enter Try.func12, Try.ntmps12
  go_wp2_with fail
  refine (HCr.out _ HS.out.1 HS.out.2.1 HS.out.2.2.2).mono ?_
  rintro e w1 ⟨A1, n1, c1, hn1, rfl, hg1, ho1⟩
  have HO1 := lib_hid ho1
  have HS1 : Hid (SB w1 A1 n1 c1 ct) := SB.own ho1
  have Hn1 : Hid (n1 = m) := by unfold Hid; rw [hn1.out, ctl.out]
  have hn1b : n1 ≤ 100000 := by have := Hn1.out; omega
  clear ho1 hn1
  go_wp2_with fail
  refine (HTg.out w1 A1 n1 c1 hn1b (HS.out.1.grows hg1) (HS.out.2.1.grows hg1) (HS.out.2.2.1.grows hg1) HS1.out).mono ?_
  rintro e w2 ⟨A2, n2, c2, hn2, rfl, hg2, ho2⟩
  have HS2 : Hid (SB w2 A2 n2 c2 tg) := SB.own ho2
  have Hn2 : Hid (n2 = 16) := by unfold Hid; rw [hn2.out, tgl.out]
  have hn2b : n2 ≤ 16 := by have := Hn2.out; omega
  have HO2 := lib_hid (own_grows HO1.out hg2)
  have hg12 := hg1.trans hg2
  have hle := hg12.le
  clear ho2 hn2 HO1 HS1 hg1 hg2
  go_wp2_with (at_builtin; refine wpList_append rfl _ _ 22 rfl w.heap.size 5 (.int .u8 0) 1 Try.underlying22 Try.infoByte rfl _ n1 _ rfl HO2.out _ n2 _ (tg.map b8) rfl HS2.out (b8_one tg) (by omega) (by omega) (by omega) ?_; intro A3 c3 w3 ho3 hb3 _)
  go_ret
  exact newB_mk rfl (by rw [List.length_append, ctl.out, tgl.out, Hn1.out, Hn2.out]) (below_trans hg12 hb3) (by rw [List.map_append]; exact ho3)

set_option maxRecDepth 100000 in
set_option maxHeartbeats 4000000 in
theorem refOpen_any (A B C D : Option Addr) (c0 d0 n c m d : Nat) (key nonce aad bs : List UInt8) (w : World) (hk : SB w A 32 c0 key) (hn : SB w B 12 d0 nonce) (ha : SB w C n c aad) (hb : SB w D m d bs) (hln : n ≤ 100000) (hlm : m ≤ 100000) (h16 : 16 ≤ m) :
    Calls Try.prog 14 #[.slice A 32 c0, .slice B 12 d0, .slice C n c, .slice D m d] w fun e w' => ∃ A' n' c', e = .returned (.tuple #[.slice A' n' c', .bool (decide (openE key nonce aad bs = 0))]) ∧ Grows w w' ∧ SB w' A' n' c' (openF key nonce aad bs) := by
  obtain ⟨bk, ok, rfl, _, _⟩ := hb.2.2.2.2 (by omega)
  have hbl := hb.len
  have hcm1 := hb.cap
  have hcm2 := hb.max
  unfold maxLen at hcm2
  obtain ⟨q, hq, Hq, hqb⟩ : ∃ q : Nat, (m : Int) - 16 = (q : Int) ∧ Hid (q + 16 = m) ∧ q ≤ 100000 := ⟨m - 16, by omega, by unfold Hid; omega, by omega⟩
  obtain ⟨xs, Hxs, xsl⟩ : ∃ x, Hid (bs.drop q = x) ∧ Hid (x.length = 16) := ⟨_, lib_hid rfl, by unfold Hid; rw [List.length_drop]; have := Hq.out; omega⟩
  obtain ⟨ys, Hys, ysl⟩ : ∃ x, Hid (bs.take q = x) ∧ Hid (x.length = q) := ⟨_, lib_hid rfl, by unfold Hid; rw [List.length_take]; have := Hq.out; omega⟩
  obtain ⟨tg, Htg⟩ : ∃ x, Hid (tagF key nonce aad ys = x) := ⟨_, lib_hid rfl⟩
  have HXs : Hid (SB w (some ⟨bk, ok + q, none⟩) (m - q) (d - q) xs) := by
    have h1 := hb.frm (k := q) (by have := Hq.out; omega)
    rw [if_neg (by have := Hq.out; omega), Hxs.out] at h1
    rw [Option.map_some, add_zero_spot] at h1
    exact h1
  have HYs : Hid (SB w (some ⟨bk, ok, none⟩) q d ys) := by
    have h1 := hb.pre (k := q) (by have := Hq.out; omega)
    rw [Hys.out] at h1; exact h1
  have HL1 : Hid (∀ W : World, Sem.run Try.prog (Instr.slice 22 (.slice (some ⟨bk, ok, none⟩) m d) (some (.int .i64 (q : Int))) none none) W = .ok (.slice (some ⟨bk, ok + q, none⟩) (m - q) (d - q)) W) := fun W => run_sl_l9 (P := Try.prog) (t := 22) (e := 5) Try.underlying22 Try.sizeByte bk ok m d q (q : Int) rfl (by have := Hq.out; omega) (by have := Hq.out; omega) W
  have HL2 : Hid (∀ W : World, Sem.run Try.prog (Instr.slice 22 (.slice (some ⟨bk, ok, none⟩) m d) none (some (.int .i64 (q : Int))) none) W = .ok (.slice (some ⟨bk, ok, none⟩) q d) W) := fun W => run_sl_h9 (P := Try.prog) (t := 22) (e := 5) Try.underlying22 Try.sizeByte bk ok m d q (q : Int) rfl (by have := Hq.out; omega) W
  have HTg : Hid (∀ W, SB W A 32 c0 key → SB W B 12 d0 nonce → SB W C n c aad → SB W (some ⟨bk, ok, none⟩) q d ys → Calls Try.prog 20 #[.slice A 32 c0, .slice B 12 d0, .slice C n c, .slice (some ⟨bk, ok, none⟩) q d] W (NewB 5 W tg)) := fun W h1 h2 h3 h4 => by
    rw [← Htg.out]; exact refTag_any A B C _ c0 d0 n c q d key nonce aad ys W h1 h2 h3 h4 hln hqb
  have HCr : Hid (∀ W, SB W A 32 c0 key → SB W B 12 d0 nonce → SB W (some ⟨bk, ok, none⟩) q d ys → Calls Try.prog 19 #[.slice A 32 c0, .slice B 12 d0, .int .u32 1, .slice (some ⟨bk, ok, none⟩) q d] W (NewB 5 W (cryptF key nonce 1 ys))) := fun W h1 h2 h4 =>
    refCrypt_any A B _ c0 d0 q d key nonce ys 1 W h1 h2 h4 hqb
  have HS := lib_hid (And.intro hk (And.intro hn (And.intro ha trivial)))
  have HF : Hid (openF key nonce aad bs = if xs = tg then cryptF key nonce 1 ys else []) := by
    unfold Hid openF
    rw [if_neg (by omega), show bs.length - 16 = q by have := Hq.out; omega, Hxs.out, Hys.out, Htg.out]
  have HE : Hid (openE key nonce aad bs = if xs = tg then 0 else 7) := by
    unfold Hid openE
    rw [if_neg (by omega), show bs.length - 16 = q by have := Hq.out; omega, Hxs.out, Hys.out, Htg.out]
  rw [HF.out, HE.out]
  clear hk hn ha hb hbl HF HE
  by_cases heq : xs = tg
  · rw [if_pos heq, if_pos heq]
    have heq2 := heq.symm
    clear heq
    subst heq2
    go_enter Try.func14, Try.ntmps14
    go_upto_region 2 with fail
    clear hq
    apply wp_region_mono 13 ((.is _, []) :: (.is _, []) :: (.is _, []) :: (.is _, []) :: (.is _, []) :: (.is _, []) :: (.is _, []) :: (.is _, []) :: (.is _, []) :: (.is _, []) :: (.pr (fun v W => ∃ A n c, v = .slice A n c ∧ SB W A n c (tg)), []) :: (.is _, [10]) :: (.is (.bool false), []) :: []) (by kernel_rfl) (by kernel_rfl)
    iterate 2
      apply Mono.is0
      · kernel_rfl
      · intro W hW
        go_wp2
        refine ⟨rfl, rfl, Grows.refl _, ?_⟩
        unfold Oper.valAt
        go_simp
        rfl
      intro k1 a1 hk1 ha1
      simp only [Nat.reduceAdd] at hk1
      simp only [Act.put, List.setIfInBounds_toArray, List.set_cons_succ, List.set_cons_zero] at ha1
      subst hk1 ha1
    apply Mono.is0
    · kernel_rfl
    · intro W hW
      have hsl := HL1.out W
      go_wp2
      refine ⟨rfl, rfl, Grows.refl _, ?_⟩
      unfold Oper.valAt
      go_simp
      rfl
    intro k1 a1 hk1 ha1
    simp only [Nat.reduceAdd] at hk1
    simp only [Act.put, List.setIfInBounds_toArray, List.set_cons_succ, List.set_cons_zero] at ha1
    subst hk1 ha1
    apply Mono.is0
    · kernel_rfl
    · intro W hW
      have cv := run_string_SB (P := Try.prog) Try.underlying22 Try.underlying5 Try.underlying9 (HXs.out.grows hW)
      go_wp2
      refine ⟨rfl, rfl, Grows.refl _, ?_⟩
      unfold Oper.valAt
      go_simp
      rfl
    intro k1 a1 hk1 ha1
    simp only [Nat.reduceAdd] at hk1
    simp only [Act.put, List.setIfInBounds_toArray, List.set_cons_succ, List.set_cons_zero] at ha1
    subst hk1 ha1
    iterate 5
      apply Mono.is0
      · kernel_rfl
      · intro W hW
        go_wp2
        refine ⟨rfl, rfl, Grows.refl _, ?_⟩
        unfold Oper.valAt
        go_simp
        rfl
      intro k1 a1 hk1 ha1
      simp only [Nat.reduceAdd] at hk1
      simp only [Act.put, List.setIfInBounds_toArray, List.set_cons_succ, List.set_cons_zero] at ha1
      subst hk1 ha1
    apply Mono.is0
    · kernel_rfl
    · intro W hW
      have hsl := HL2.out W
      go_wp2
      refine ⟨rfl, rfl, Grows.refl _, ?_⟩
      unfold Oper.valAt
      go_simp
      rfl
    intro k1 a1 hk1 ha1
    simp only [Nat.reduceAdd] at hk1
    simp only [Act.put, List.setIfInBounds_toArray, List.set_cons_succ, List.set_cons_zero] at ha1
    subst hk1 ha1
    apply Mono.pr0
    · kernel_rfl
    · exact fun v W W' hW ⟨A, n, c, h1, h2⟩ => ⟨A, n, c, h1, h2.grows hW⟩
    · intro W hW 
      go_wp2_with fail
      refine (HTg.out W (HS.out.1.grows hW) (HS.out.2.1.grows hW) (HS.out.2.2.1.grows hW) (HYs.out.grows hW)).mono ?_
      rintro e w1 ⟨A1, n1, c1, hn1, rfl, hg1, ho1⟩
      go_wp2
      exact ⟨rfl, rfl, hg1, A1, n1, c1, rfl, SB.own ho1⟩
    intro v10
    intro k1 a1 hk1 ha1
    simp only [Nat.reduceAdd] at hk1
    simp only [Act.put, List.setIfInBounds_toArray, List.set_cons_succ, List.set_cons_zero] at ha1
    subst hk1 ha1
    apply Mono.is1
    · kernel_rfl
    · intro W hW f0
      obtain ⟨A1, n1, c1, rfl, hs⟩ := f0
      have cv := run_string_SB (P := Try.prog) Try.underlying22 Try.underlying5 Try.underlying9 hs
      go_wp2
      refine ⟨rfl, rfl, Grows.refl _, ?_⟩
      unfold Oper.valAt
      go_simp
      rfl
    intro k1 a1 hk1 ha1
    simp only [Nat.reduceAdd] at hk1
    simp only [Act.put, List.setIfInBounds_toArray, List.set_cons_succ, List.set_cons_zero] at ha1
    subst hk1 ha1
    apply Mono.is0
    · kernel_rfl
    · intro W hW 
      go_wp2
      refine ⟨rfl, rfl, Grows.refl _, ?_⟩
      unfold Oper.valAt
      go_simp
      first | done | simp
    intro k1 a1 hk1 ha1
    simp only [Nat.reduceAdd] at hk1
    simp only [Act.put, List.setIfInBounds_toArray, List.set_cons_succ, List.set_cons_zero] at ha1
    subst hk1 ha1
    refine Mono.done ?_
    intro wm hgm
    simp only [allF, List.drop_succ_cons, List.drop_nil]
    intro g10
    have HS2 : Hid (SB wm A 32 c0 key ∧ SB wm B 12 d0 nonce ∧ SB wm (some ⟨bk, ok, none⟩) q d ys) := ⟨HS.out.1.grows hgm, HS.out.2.1.grows hgm, HYs.out.grows hgm⟩
    have hsl := HL2.out
    go_wp2_with fail
    refine (HCr.out _ HS2.out.1 HS2.out.2.1 HS2.out.2.2).mono ?_
    rintro e w3 ⟨A3, n3, c3, hn3, rfl, hg3, ho3⟩
    have HS3 := lib_hid (SB.own ho3)
    have hgf := hgm.trans hg3
    clear ho3 hn3 hg3 hsl
    go_wp2
    go_ret2
    exact ⟨A3, n3, c3, rfl, hgf, HS3.out⟩
  · rw [if_neg heq, if_neg heq]
    have Hne := lib_hid heq
    clear heq
    go_enter Try.func14, Try.ntmps14
    go_upto_region 2 with fail
    clear hq
    apply wp_region_mono 13 ((.is _, []) :: (.is _, []) :: (.is _, []) :: (.is _, []) :: (.is _, []) :: (.is _, []) :: (.is _, []) :: (.is _, []) :: (.is _, []) :: (.is _, []) :: (.pr (fun v W => ∃ A n c, v = .slice A n c ∧ SB W A n c (tg)), []) :: (.is _, [10]) :: (.is (.bool true), []) :: []) (by kernel_rfl) (by kernel_rfl)
    iterate 2
      apply Mono.is0
      · kernel_rfl
      · intro W hW
        go_wp2
        refine ⟨rfl, rfl, Grows.refl _, ?_⟩
        unfold Oper.valAt
        go_simp
        rfl
      intro k1 a1 hk1 ha1
      simp only [Nat.reduceAdd] at hk1
      simp only [Act.put, List.setIfInBounds_toArray, List.set_cons_succ, List.set_cons_zero] at ha1
      subst hk1 ha1
    apply Mono.is0
    · kernel_rfl
    · intro W hW
      have hsl := HL1.out W
      go_wp2
      refine ⟨rfl, rfl, Grows.refl _, ?_⟩
      unfold Oper.valAt
      go_simp
      rfl
    intro k1 a1 hk1 ha1
    simp only [Nat.reduceAdd] at hk1
    simp only [Act.put, List.setIfInBounds_toArray, List.set_cons_succ, List.set_cons_zero] at ha1
    subst hk1 ha1
    apply Mono.is0
    · kernel_rfl
    · intro W hW
      have cv := run_string_SB (P := Try.prog) Try.underlying22 Try.underlying5 Try.underlying9 (HXs.out.grows hW)
      go_wp2
      refine ⟨rfl, rfl, Grows.refl _, ?_⟩
      unfold Oper.valAt
      go_simp
      rfl
    intro k1 a1 hk1 ha1
    simp only [Nat.reduceAdd] at hk1
    simp only [Act.put, List.setIfInBounds_toArray, List.set_cons_succ, List.set_cons_zero] at ha1
    subst hk1 ha1
    iterate 5
      apply Mono.is0
      · kernel_rfl
      · intro W hW
        go_wp2
        refine ⟨rfl, rfl, Grows.refl _, ?_⟩
        unfold Oper.valAt
        go_simp
        rfl
      intro k1 a1 hk1 ha1
      simp only [Nat.reduceAdd] at hk1
      simp only [Act.put, List.setIfInBounds_toArray, List.set_cons_succ, List.set_cons_zero] at ha1
      subst hk1 ha1
    apply Mono.is0
    · kernel_rfl
    · intro W hW
      have hsl := HL2.out W
      go_wp2
      refine ⟨rfl, rfl, Grows.refl _, ?_⟩
      unfold Oper.valAt
      go_simp
      rfl
    intro k1 a1 hk1 ha1
    simp only [Nat.reduceAdd] at hk1
    simp only [Act.put, List.setIfInBounds_toArray, List.set_cons_succ, List.set_cons_zero] at ha1
    subst hk1 ha1
    apply Mono.pr0
    · kernel_rfl
    · exact fun v W W' hW ⟨A, n, c, h1, h2⟩ => ⟨A, n, c, h1, h2.grows hW⟩
    · intro W hW 
      go_wp2_with fail
      refine (HTg.out W (HS.out.1.grows hW) (HS.out.2.1.grows hW) (HS.out.2.2.1.grows hW) (HYs.out.grows hW)).mono ?_
      rintro e w1 ⟨A1, n1, c1, hn1, rfl, hg1, ho1⟩
      go_wp2
      exact ⟨rfl, rfl, hg1, A1, n1, c1, rfl, SB.own ho1⟩
    intro v10
    intro k1 a1 hk1 ha1
    simp only [Nat.reduceAdd] at hk1
    simp only [Act.put, List.setIfInBounds_toArray, List.set_cons_succ, List.set_cons_zero] at ha1
    subst hk1 ha1
    apply Mono.is1
    · kernel_rfl
    · intro W hW f0
      obtain ⟨A1, n1, c1, rfl, hs⟩ := f0
      have cv := run_string_SB (P := Try.prog) Try.underlying22 Try.underlying5 Try.underlying9 hs
      go_wp2
      refine ⟨rfl, rfl, Grows.refl _, ?_⟩
      unfold Oper.valAt
      go_simp
      rfl
    intro k1 a1 hk1 ha1
    simp only [Nat.reduceAdd] at hk1
    simp only [Act.put, List.setIfInBounds_toArray, List.set_cons_succ, List.set_cons_zero] at ha1
    subst hk1 ha1
    apply Mono.is0
    · kernel_rfl
    · intro W hW 
      go_wp2
      refine ⟨rfl, rfl, Grows.refl _, ?_⟩
      unfold Oper.valAt
      go_simp
      first | done | exact Hne.out
    intro k1 a1 hk1 ha1
    simp only [Nat.reduceAdd] at hk1
    simp only [Act.put, List.setIfInBounds_toArray, List.set_cons_succ, List.set_cons_zero] at ha1
    subst hk1 ha1
    refine Mono.done ?_
    intro wm hgm
    simp only [allF, List.drop_succ_cons, List.drop_nil]
    intro g10
    go_wp2
    go_ret2
    exact ⟨none, 0, 0, rfl, hgm, SB.nil _⟩

end Go.Proofs.Ytgolndfimhogoaa

