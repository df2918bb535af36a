/-
  The walks of package aead: the tag; what is crypted.
-/
import Derived.Test.YtgolndfimhogoaaPoly6
import Derived.Test.YtgolndfimhogoaaPolyLe
import Derived.Test.YtgolndfimhogoaaChacha4
import Derived.Test.YtgolndfimhogoaaBitsEq
import Derived.Deep.Cut
namespace Go.Proofs.Ytgolndfimhogoaa
open Go Go.RowKit
set_option linter.unusedSimpArgs false


theorem Grows.trans_below {a b c : World} (h : Grows a b) (k : Below a.heap.size b c) : Grows a c := Below.trans h k
theorem made_zeros8 (w : World) (t : TypeId) (m : Nat) (h : m ≤ 1000000) : SB (w.alloc (.cells (madeCells #[Value.int .u8 0] m) t)) (some ⟨w.heap.size, 0, none⟩) m m (List.replicate m 0) := by
  have e1 : madeCells #[Value.int .u8 0] m = ((List.replicate m (0 : UInt8)).map b8).toArray := by
    apply Array.toList_inj.1
    rw [toList_madeCells_one]; simp
  rw [e1]
  have := (Blk.new w t ((List.replicate m (0 : UInt8)).map b8).toArray).row (o := 0) (n := m) (c := m) (Nat.le_refl _) (by simp) (by unfold maxLen; omega)
  unfold SB
  simpa using this
theorem pwrite_b (g base : Nat) (rb : Option Nat) (r0 r1 s0 s1 : UInt64) (bs ys : List UInt8) (B : Option Addr) (m d : Nat) (w : World) (hP : PSt w base g rb r0 r1 s0 s1 bs) (hs : SB w B m d ys) (hm : m ≤ 1000000) (hbase : base ≤ w.heap.size) :
    Calls Try.prog 26 #[.pointer (some ⟨g, 0, none⟩), .slice B m d] w fun e w' => e = .returned (.tuple #[]) ∧ ∃ rb', PSt w' base g rb' r0 r1 s0 s1 (bs ++ ys) ∧ Below base w w' := by
  have hl := hP.lt
  have hg := hP.1
  refine (pwrite_any g base rb r0 r1 s0 s1 bs ys B m d w hP hs hm hbase).mono ?_
  rintro e w' ⟨rfl, rb', h1, h2, _⟩
  refine ⟨rfl, rb', h1, h2.below hbase (fun k hk => ?_)⟩
  rcases hk with h | h
  · rw [h]; exact hg
  · exact (hl.2 k h).1
theorem putLittle_nat (n : Nat) (h : n < 18446744073709551616) (w : World) : Calls Try.prog 27 #[.int .u64 (n : Int), .int .i64 8] w (NewB 5 w (putLittleF (UInt64.ofNat n) 8)) := by
  have := putLittle_any (UInt64.ofNat n) 8 w (by omega)
  rw [UInt64.toNat_ofNat', Nat.mod_eq_of_lt h] at this
  exact this
def pad0 (xs : List UInt8) : List UInt8 := List.replicate ((16 - xs.length % 16) % 16) 0
def macF (aad sealed : List UInt8) : List UInt8 := aad ++ pad0 aad ++ sealed ++ pad0 sealed ++ putLittleF (UInt64.ofNat aad.length) 8 ++ putLittleF (UInt64.ofNat sealed.length) 8
def tagF (key nonce aad sealed : List UInt8) : List UInt8 := polyF ((blockC key nonce 0).take 32) (macF aad sealed)
theorem tagF_len (key nonce aad sealed : List UInt8) : (tagF key nonce aad sealed).length = 16 := polyF_len _ _
theorem Try.size44s : (Try.prog.info? 40).map (·.size) = some 44 := by kernel_rfl

set_option maxRecDepth 100000 in
set_option maxHeartbeats 4000000 in
theorem crypted_any (key nonce bs : List UInt8) (hk : key.length = 32) (hn : nonce.length = 12) (A : Option Addr) (l c : Nat) (w : World) (hs : SB w A l c bs) (hl : l ≤ 100000) :
    Calls Try.prog 17 #[.agg (key.map b8 ++ nonce.map b8).toArray, .slice A l c] w (NewB 5 w (cryptF key nonce 1 bs)) := by
  obtain ⟨zs, Hz⟩ : ∃ zs : List Value, Hid (zs = key.map b8 ++ nonce.map b8) := ⟨_, lib_hid rfl⟩
  rw [← Hz.out]
  obtain ⟨W0, HW0, hg0⟩ : ∃ W0 : World, Hid (W0 = w.alloc (.cells zs.toArray 40)) ∧ Grows w W0 := ⟨_, lib_hid rfl, (Grows.refl w).alloc _⟩
  have HZ : Hid (Blk W0 w.heap.size 40 zs.toArray) := by unfold Hid; rw [HW0.out]; exact Blk.new _ _ _
  have HFk : Hid (∀ W, Grows W0 W → Row W (some ⟨w.heap.size, 0, none⟩) 32 32 (key.map b8)) := fun W hW => by
    have := (HZ.out.grows hW).row (o := 0) (n := 32) (c := 32) (by omega) (by rw [Hz.out]; simp [hk, hn]) (by unfold maxLen; omega)
    rw [Hz.out] at this
    simpa [List.take_append, hk] using this
  have HFn : Hid (∀ W, Grows W0 W → Row W (some ⟨w.heap.size, 32, none⟩) 12 12 (nonce.map b8)) := fun W hW => by
    have := (HZ.out.grows hW).row (o := 32) (n := 12) (c := 12) (by omega) (by rw [Hz.out]; simp [hk, hn]) (by unfold maxLen; omega)
    rw [Hz.out] at this
    simpa [List.take_append, List.drop_append, hk, hn, List.take_of_length_le] using this
  have HS0 := lib_hid (hs.grows hg0)
  have Hc : Hid (∀ W, SB W A l c bs → Calls Try.prog 23 #[.agg (key.map b8).toArray, .agg (nonce.map b8).toArray, .int .u32 1, .slice A l c] W (NewB 5 W (cryptF key nonce 1 bs))) := fun W h => crypt_any key nonce 1 A l c bs hk hn W h hl
  have HW0' := HW0.out
  clear hs hk hn
  go_enter Try.func17, Try.ntmps17
  go_upto_region 1 with fail
  rw [← HW0']
  clear HW0'
  go_wp2_with (first
    | (refine wpList_load_part rfl _ _ rfl ⟨w.heap.size, 0, none⟩ rfl 32 32 (key.map b8) _ (HFk.out W0 (Grows.refl _)) Try.underlying37 rfl Try.size32k ?_)
    | (refine wpList_load_part rfl _ _ rfl ⟨w.heap.size, 32, none⟩ rfl 12 12 (nonce.map b8) _ (HFn.out W0 (Grows.refl _)) Try.underlying38 rfl Try.size12 ?_))
  refine (Hc.out W0 HS0.out).mono ?_
  rintro e w2 ⟨A2, n2, c2, hn2, rfl, hg2, ho2⟩
  go_wp2
  go_ret
  exact ⟨A2, n2, c2, hn2, rfl, hg0.trans hg2, own_base ho2 hg0.le⟩

set_option maxRecDepth 100000 in
set_option maxHeartbeats 4000000 in
theorem tag_any (key nonce xs ys : List UInt8) (hk : key.length = 32) (hn : nonce.length = 12) (A B : Option Addr) (n c m d : Nat) (w : World) (ha : SB w A n c xs) (hb : SB w B m d ys) (hln : n ≤ 100000) (hlm : m ≤ 100000) :
    Calls Try.prog 18 #[.agg (key.map b8 ++ nonce.map b8).toArray, .slice A n c, .slice B m d] w fun e w' => ∃ (g c : Nat), e = .returned (.slice (some ⟨g, 0, none⟩) 16 c) ∧ Grows w w' ∧ SB w' (some ⟨g, 0, none⟩) 16 c (tagF key nonce xs ys) := by
  obtain ⟨zs, Hz⟩ : ∃ zs : List Value, Hid (zs = key.map b8 ++ nonce.map b8) := ⟨_, lib_hid rfl⟩
  rw [← Hz.out]
  obtain ⟨W0, HW0, hg0⟩ : ∃ W0 : World, Hid (W0 = w.alloc (.cells zs.toArray 40)) ∧ Grows w W0 := ⟨_, lib_hid rfl, (Grows.refl w).alloc _⟩
  have HZ : Hid (Blk W0 w.heap.size 40 zs.toArray) := by unfold Hid; rw [HW0.out]; exact Blk.new _ _ _
  have HFk : Hid (∀ W, Grows W0 W → Row W (some ⟨w.heap.size, 0, none⟩) 32 32 (key.map b8)) := fun W hW => by
    have := (HZ.out.grows hW).row (o := 0) (n := 32) (c := 32) (by omega) (by rw [Hz.out]; simp [hk, hn]) (by unfold maxLen; omega)
    rw [Hz.out] at this
    simpa [List.take_append, hk] using this
  have HFn : Hid (∀ W, Grows W0 W → Row W (some ⟨w.heap.size, 32, none⟩) 12 12 (nonce.map b8)) := fun W hW => by
    have := (HZ.out.grows hW).row (o := 32) (n := 12) (c := 12) (by omega) (by rw [Hz.out]; simp [hk, hn]) (by unfold maxLen; omega)
    rw [Hz.out] at this
    simpa [List.take_append, List.drop_append, hk, hn, List.take_of_length_le] using this
  obtain ⟨rav, qa, Hra, Hqap, qab⟩ : ∃ r q : Nat, Hid ((n : Int).tmod 16 = (r : Int) ∧ (n : Int) % 16 = (r : Int) ∧ ((16 : Int) - (r : Int)).tmod 16 = (q : Int) ∧ ((16 : Int) - (r : Int)) % 16 = (q : Int) ∧ (r : Int) < 16) ∧ Hid ((16 - n % 16) % 16 = q) ∧ q ≤ 15 :=
    ⟨n % 16, (16 - n % 16) % 16, ⟨by rw [Int.tmod_eq_emod_of_nonneg (by omega)]; omega, by omega, by rw [Int.tmod_eq_emod_of_nonneg (by omega)]; omega, by omega, by omega⟩, lib_hid rfl, by omega⟩
  obtain ⟨rbv, qb, Hrb, Hqbp, qbb⟩ : ∃ r q : Nat, Hid ((m : Int).tmod 16 = (r : Int) ∧ (m : Int) % 16 = (r : Int) ∧ ((16 : Int) - (r : Int)).tmod 16 = (q : Int) ∧ ((16 : Int) - (r : Int)) % 16 = (q : Int) ∧ (r : Int) < 16) ∧ Hid ((16 - m % 16) % 16 = q) ∧ q ≤ 15 :=
    ⟨m % 16, (16 - m % 16) % 16, ⟨by rw [Int.tmod_eq_emod_of_nonneg (by omega)]; omega, by omega, by rw [Int.tmod_eq_emod_of_nonneg (by omega)]; omega, by omega, by omega⟩, lib_hid rfl, by omega⟩
  have hxl := ha.len
  have hyl := hb.len
  obtain ⟨one, Hone, onel⟩ : ∃ x, Hid (blockC key nonce 0 = x) ∧ Hid (x.length = 64) := ⟨_, lib_hid rfl, blockC_len _ _ _⟩
  obtain ⟨ok, Hok, okl⟩ : ∃ x, Hid (one.take 32 = x) ∧ Hid (x.length = 32) := ⟨_, lib_hid rfl, by unfold Hid; rw [List.length_take, onel.out]; rfl⟩
  obtain ⟨res, Hres, hrl, hra⟩ : ∃ r : Array Value, Hid ((one.map b8).toArray = r) ∧ r.size = 64 ∧ r.all (·.oneCell') = true := ⟨_, lib_hid rfl, by simp [onel.out], cells_all _⟩
  have Hblk : Hid (∀ W, Calls Try.prog 24 #[.agg (key.map b8).toArray, .agg (nonce.map b8).toArray, .int .u32 0] W fun e w' => e = .returned (.agg res) ∧ Grows W w') := fun W => by
    rw [← Hres.out, ← Hone.out]; exact blockc_any key nonce 0 hk hn W
  have Hnew : Hid (∀ W, Calls Try.prog 25 #[.agg (ok.map b8).toArray] W fun e w' => ∃ g, e = .returned (.pointer (some ⟨g, 0, none⟩)) ∧ Grows W w' ∧ PSt w' W.heap.size g none (kr0 ok) (kr1 ok) (ks0 ok) (ks1 ok) []) := pnew_any ok okl.out
  obtain ⟨r0, r1, s0, s1, HK⟩ : ∃ r0 r1 s0 s1, Hid (kr0 ok = r0 ∧ kr1 ok = r1 ∧ ks0 ok = s0 ∧ ks1 ok = s1) := ⟨_, _, _, _, ⟨rfl, rfl, rfl, rfl⟩⟩
  obtain ⟨m1, Hm1⟩ : ∃ x, Hid ([] ++ xs = x) := ⟨_, lib_hid rfl⟩
  obtain ⟨m2, Hm2⟩ : ∃ x, Hid (m1 ++ List.replicate qa 0 = x) := ⟨_, lib_hid rfl⟩
  obtain ⟨m3, Hm3⟩ : ∃ x, Hid (m2 ++ ys = x) := ⟨_, lib_hid rfl⟩
  obtain ⟨m4, Hm4⟩ : ∃ x, Hid (m3 ++ List.replicate qb 0 = x) := ⟨_, lib_hid rfl⟩
  obtain ⟨m5, Hm5⟩ : ∃ x, Hid (m4 ++ putLittleF (UInt64.ofNat n) 8 = x) := ⟨_, lib_hid rfl⟩
  obtain ⟨m6, Hm6⟩ : ∃ x, Hid (m5 ++ putLittleF (UInt64.ofNat m) 8 = x) := ⟨_, lib_hid rfl⟩
  have Hmac : Hid (macF xs ys = m6) := by
    unfold Hid macF pad0
    rw [hxl, hyl, Hqap.out, Hqbp.out, ← Hm6.out, ← Hm5.out, ← Hm4.out, ← Hm3.out, ← Hm2.out, ← Hm1.out, List.nil_append]
  obtain ⟨tg, Htg, tgl⟩ : ∃ x, Hid (psumF r0 r1 s0 s1 m6 = x) ∧ Hid (x.length = 16) := ⟨_, lib_hid rfl, psumF_len _ _ _ _ _⟩
  have HT : Hid (tagF key nonce xs ys = tg) := by
    unfold Hid tagF polyF
    rw [Hone.out, Hok.out, Hmac.out, HK.out.1, HK.out.2.1, HK.out.2.2.1, HK.out.2.2.2, Htg.out]
  obtain ⟨tv, Htv, htvl, htva⟩ : ∃ r : Array Value, Hid ((tg.map b8).toArray = r) ∧ r.size = 16 ∧ r.all (·.oneCell') = true := ⟨_, lib_hid rfl, by simp [tgl.out], cells_all _⟩
  have HX0 := lib_hid (ha.grows hg0)
  have HY0 := lib_hid (hb.grows hg0)
  have HW0' := HW0.out
  have hi0 : ∀ W, Sem.run Try.prog (Instr.index 52 (.agg #[.slice A n c, .slice B m d]) (.int .i64 0)) W = .ok (.slice A n c) W := fun _ => rfl
  have hi1 : ∀ W, Sem.run Try.prog (Instr.index 52 (.agg #[.slice A n c, .slice B m d]) (.int .i64 1)) W = .ok (.slice B m d) W := fun _ => rfl
  have Hi0 := lib_hid hi0
  have Hi1 := lib_hid hi1
  clear ha hb hk hn hxl hyl hi0 hi1
  go_enter Try.func18, Try.ntmps18
  go_upto_region 1 with fail
  rw [← HW0']
  clear HW0'
  go_wp2_with (first
    | (refine wpList_load_part rfl _ _ rfl ⟨w.heap.size, 0, none⟩ rfl 32 32 (key.map b8) _ (HFk.out W0 (Grows.refl _)) Try.underlying37 rfl Try.size32k ?_)
    | (refine wpList_load_part rfl _ _ rfl ⟨w.heap.size, 32, none⟩ rfl 12 12 (nonce.map b8) _ (HFn.out W0 (Grows.refl _)) Try.underlying38 rfl Try.size12 ?_))
  refine (Hblk.out W0).mono ?_
  rintro e w1 ⟨rfl, hg1⟩
  obtain ⟨g7, Hg7⟩ : ∃ g, Hid (w1.heap.size = g) := ⟨_, lib_hid rfl⟩
  go_upto_region 2 with (refine wpList_store_blk rfl _ _ _ rfl w1.heap.size res rfl rfl 48 _ (Blk.new _ _ _) (by rw [Try.size64, hrl]) (by simp [hrl]) hra w1.heap.size w1 ((Grows.refl w1).alloc _) (Nat.le_refl _) ?_; intro w2 H7 hb2 hg2)
  rw [Hg7.out] at H7
  rw [Hg7.out]
  have hg02 : Grows W0 w2 := hg1.trans hb2
  have HR1 : Hid (Row w2 (some ⟨g7, 0, none⟩) 32 64 (ok.map b8)) := by
    have H8 : Blk w2 g7 48 (one.map b8).toArray := by rw [Hres.out]; exact H7
    have := H8.row (o := 0) (n := 32) (c := 64) (by omega) (by simp [onel.out]) (by unfold maxLen; omega)
    unfold Hid; rw [← Hok.out]
    simpa [List.map_take] using this
  have hat := fun W => run_arrayAt (Pr := Try.prog) Try.underlying37 (some ⟨g7, 0, none⟩) 32 64 (by omega) W
  have HX := lib_hid (HX0.out.grows hg02)
  have HY := lib_hid (HY0.out.grows hg02)
  have hgw2 := hg0.trans hg02
  clear hg1 hb2 hg2 H7 hg02 HX0 HY0
  go_wp2_with (refine wpList_load_part rfl _ _ rfl ⟨g7, 0, none⟩ rfl 32 64 (ok.map b8) _ HR1.out Try.underlying37 rfl Try.size32k ?_)
  refine (Hnew.out w2).mono ?_
  rintro e w3 ⟨g, rfl, hg3, hP3⟩
  obtain ⟨base, Hbase⟩ : ∃ b, Hid (w2.heap.size = b) := ⟨_, lib_hid rfl⟩
  rw [HK.out.1, HK.out.2.1, HK.out.2.2.1, HK.out.2.2.2, Hbase.out] at hP3
  have HP3 := lib_hid hP3
  have hbw := Hbase.out
  subst hbw
  clear hP3 hat Hbase
  obtain ⟨base, Hbase⟩ : ∃ b, b = w2.heap.size := ⟨_, rfl⟩
  go_wp2_with fail
  go_loopw [10, 24] (fun _ iv wr => ∃ (k : Nat) (rb : Option Nat) (acc : List UInt8), iv = .int .i64 (k : Int) ∧ Grows w2 wr ∧ Hid (PSt wr w2.heap.size g rb r0 r1 s0 s1 acc) ∧ Hid ((k = 0 ∧ [] = acc) ∨ (k = 1 ∧ m2 = acc) ∨ (k = 2 ∧ m4 = acc))) (fun _ iv _ => 2 - (intOf iv).toNat)
  case atStart => exact ⟨0, none, [], rfl, hg3, HP3, Or.inl ⟨rfl, rfl⟩⟩
  case round =>
    clear hg3 HP3
    obtain ⟨k, rb, acc, rfl, hgr, HP, hq⟩ := hrel
    rcases hq.out with ⟨rfl, rfl⟩ | ⟨rfl, rfl⟩ | ⟨rfl, rfl⟩
    · have hi0 := Hi0.out
      clear hq
      go_wp2_with fail
      refine (pwrite_b g w2.heap.size rb r0 r1 s0 s1 [] xs A n c wr HP.out (HX.out.grows hgr) (by omega) hgr.le).mono ?_
      rintro e w5 ⟨rfl, rb5, hP5, hb5⟩
      rw [Hm1.out] at hP5
      have HP5 := lib_hid hP5
      have hgr5 : Grows w2 w5 := hgr.trans_below hb5
      have hmk := run_make_row' (P := Try.prog) 22 5 (.int .u8 0) 1 Try.underlying22 Try.infoByte rfl .i64 .i64 qa (by omega) (by omega) w5
      have hsz := made_zeros8 w5 5 qa (by omega)
      have HSZ := lib_hid hsz
      have hr := Hra.out
      clear hP5 hb5 HP hgr hsz
      go_wp2_with fail
      refine (pwrite_b g w2.heap.size rb5 r0 r1 s0 s1 m1 (List.replicate qa 0) (some ⟨w5.heap.size, 0, none⟩) qa qa _ (HP5.out.grows ((Grows.refl w5).alloc _)) HSZ.out (by omega) (Nat.le_trans hgr5.le ((Grows.refl w5).alloc _).le)).mono ?_
      rintro e w6 ⟨rfl, rb6, hP6, hb6⟩
      rw [Hm2.out] at hP6
      have HP6 := lib_hid hP6
      have hgr6 : Grows w2 w6 := (hgr5.trans ((Grows.refl w5).alloc _)).trans_below hb6
      clear hP6 hb6 HP5 hgr5 HSZ hmk hr
      go_wp2
      go_roundw
      case rel => exact ⟨1, rb6, m2, rfl, hgr6, HP6, Or.inr (Or.inl ⟨rfl, rfl⟩)⟩
      case measure => simp [intOf]
    · have hi1 := Hi1.out
      clear hq
      go_wp2_with fail
      refine (pwrite_b g w2.heap.size rb r0 r1 s0 s1 m2 ys B m d wr HP.out (HY.out.grows hgr) (by omega) hgr.le).mono ?_
      rintro e w5 ⟨rfl, rb5, hP5, hb5⟩
      rw [Hm3.out] at hP5
      have HP5 := lib_hid hP5
      have hgr5 : Grows w2 w5 := hgr.trans_below hb5
      have hmk := run_make_row' (P := Try.prog) 22 5 (.int .u8 0) 1 Try.underlying22 Try.infoByte rfl .i64 .i64 qb (by omega) (by omega) w5
      have hsz := made_zeros8 w5 5 qb (by omega)
      have HSZ := lib_hid hsz
      have hr := Hrb.out
      clear hP5 hb5 HP hgr hsz
      go_wp2_with fail
      refine (pwrite_b g w2.heap.size rb5 r0 r1 s0 s1 m3 (List.replicate qb 0) (some ⟨w5.heap.size, 0, none⟩) qb qb _ (HP5.out.grows ((Grows.refl w5).alloc _)) HSZ.out (by omega) (Nat.le_trans hgr5.le ((Grows.refl w5).alloc _).le)).mono ?_
      rintro e w6 ⟨rfl, rb6, hP6, hb6⟩
      rw [Hm4.out] at hP6
      have HP6 := lib_hid hP6
      have hgr6 : Grows w2 w6 := (hgr5.trans ((Grows.refl w5).alloc _)).trans_below hb6
      clear hP6 hb6 HP5 hgr5 HSZ hmk hr
      go_wp2
      go_roundw
      case rel => exact ⟨2, rb6, m4, rfl, hgr6, HP6, Or.inr (Or.inr ⟨rfl, rfl⟩)⟩
      case measure => simp [intOf]
    · clear hq
      go_wp2_with fail
      refine (putLittle_nat n (by omega) wr).mono ?_
      rintro e w5 ⟨A5, n5, c5, hn5, rfl, hg5, ho5⟩
      obtain rfl : n5 = 8 := by rw [hn5.out]; simp [putLittleF]
      have HS5 := lib_hid (SB.own ho5)
      have HP5 := lib_hid (HP.out.grows hg5)
      have hgr5 := hgr.trans hg5
      clear ho5 hg5 HP hgr
      go_wp2_with fail
      refine (pwrite_b g w2.heap.size rb r0 r1 s0 s1 m4 (putLittleF (UInt64.ofNat n) 8) A5 8 c5 w5 HP5.out HS5.out (by omega) hgr5.le).mono ?_
      rintro e w6 ⟨rfl, rb6, hP6, hb6⟩
      rw [Hm5.out] at hP6
      have HP6 := lib_hid hP6
      have hgr6 : Grows w2 w6 := hgr5.trans_below hb6
      clear hP6 hb6 HP5 hgr5 HS5
      go_wp2_with fail
      refine (putLittle_nat m (by omega) w6).mono ?_
      rintro e w7 ⟨A7, n7, c7, hn7, rfl, hg7, ho7⟩
      obtain rfl : n7 = 8 := by rw [hn7.out]; simp [putLittleF]
      have HS7 := lib_hid (SB.own ho7)
      have HP7 := lib_hid (HP6.out.grows hg7)
      have hgr7 := hgr6.trans hg7
      clear ho7 hg7 HP6 hgr6
      go_wp2_with fail
      refine (pwrite_b g w2.heap.size rb6 r0 r1 s0 s1 m5 (putLittleF (UInt64.ofNat m) 8) A7 8 c7 w7 HP7.out HS7.out (by omega) hgr7.le).mono ?_
      rintro e w8 ⟨rfl, rb8, hP8, hb8⟩
      rw [Hm6.out] at hP8
      have HP8 := lib_hid hP8
      have hgr8 : Grows w2 w8 := hgr7.trans_below hb8
      clear hP8 hb8 HP7 hgr7 HS7
      go_wp2_with fail
      refine (psum_any g w2.heap.size rb8 r0 r1 s0 s1 m6 w8 HP8.out).mono ?_
      rintro e w9 ⟨rfl, hg9⟩
      rw [Htg.out, Htv.out]
      obtain ⟨g11, Hg11⟩ : ∃ x, Hid (w9.heap.size = x) := ⟨_, lib_hid rfl⟩
      go_upto_region 12 with (refine wpList_store_blk rfl _ _ _ rfl w9.heap.size tv rfl rfl 56 _ (Blk.new _ _ _) (by rw [Try.size16, htvl]) (by simp [htvl]) htva w9.heap.size w9 ((Grows.refl w9).alloc _) (Nat.le_refl _) ?_; intro w10 H10 hb10 hg10)
      rw [Hg11.out] at H10
      rw [Hg11.out]
      have HSB : Hid (SB w10 (some ⟨g11, 0, none⟩) 16 16 (tagF key nonce xs ys)) := by
        have H8 : Blk w10 g11 56 (tg.map b8).toArray := by rw [Htv.out]; exact H10
        have := H8.part8 0 16 16 (Nat.le_refl _) (by rw [tgl.out]; omega) (by unfold maxLen; omega)
        unfold Hid; rw [HT.out]
        simpa [List.take_of_length_le (show tg.length ≤ 16 by rw [tgl.out]; omega)] using this
      have hgf : Grows w w10 := ((hgw2.trans hgr8).trans hg9).trans hb10
      clear H10 hb10 hg10 HP8
      go_wp2
      go_ret
      exact ⟨g11, 16, rfl, hgf, HSB.out⟩

end Go.Proofs.Ytgolndfimhogoaa
