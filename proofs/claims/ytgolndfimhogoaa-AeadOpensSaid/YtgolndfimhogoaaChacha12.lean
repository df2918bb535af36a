/-
  The walk of the reference's Crypt.
-/
import Derived.Test.YtgolndfimhogoaaChacha11
import Derived.Test.YtgolndfimhogoaaChacha4
import Derived.Test.YtgolndfimhogoaaOwn
import Derived.Deep.Cut
namespace Go.Proofs.Ytgolndfimhogoaa
open Go Go.RowKit
set_option linter.unusedSimpArgs false


theorem strN_at (key nonce : List UInt8) (n : UInt32) (N : Nat) : ∀ j r, j < N → r < 64 → (strN key nonce n N)[64 * j + r]? = (blockC key nonce (n + UInt32.ofNat j))[r]? := by
  induction N with
  | zero => intro j r h; omega
  | succ k ih =>
    intro j r h hr
    have hl := strN_len key nonce n k
    rw [strN]
    by_cases e : j = k
    · subst e
      rw [List.getElem?_append_right (by omega), hl, Nat.add_sub_cancel_left]
    · rw [List.getElem?_append_left (by omega)]
      exact ih j r (by omega) hr
theorem cryptF_at (key nonce : List UInt8) (n : UInt32) (bs : List UInt8) (i q r : Nat) (hi : i < bs.length) (hq : i = 64 * q + r) (hr : r < 64) :
    (cryptF key nonce n bs)[i]? = some (bs.getD i 0 ^^^ (blockC key nonce (n + UInt32.ofNat q)).getD r 0) := by
  have hs : (streamF key nonce n bs.length)[i]? = (blockC key nonce (n + UInt32.ofNat q))[r]? := by
    unfold streamF
    rw [List.getElem?_take, if_pos hi, hq, strN_at _ _ _ _ _ _ (by omega) hr]
  have hb : (blockC key nonce (n + UInt32.ofNat q))[r]? = some ((blockC key nonce (n + UInt32.ofNat q)).getD r 0) := by
    rw [List.getD_eq_getElem?_getD, List.getElem?_eq_getElem (by rw [blockC_len]; exact hr)]; rfl
  rw [hb] at hs
  have hb2 : bs[i]? = some (bs.getD i 0) := by rw [List.getD_eq_getElem?_getD, List.getElem?_eq_getElem hi]; rfl
  unfold cryptF xorF
  rw [List.getElem?_zipWith, hs, hb2]
theorem blkAt_getD (bs : List UInt8) (j : Nat) (h : j < bs.length) : bs[j] = bs.getD j 0 := by rw [List.getD_eq_getElem?_getD, List.getElem?_eq_getElem h]; rfl

set_option maxRecDepth 100000 in
set_option maxHeartbeats 4000000 in
theorem refCrypt_any (A B D : Option Addr) (c d l e : Nat) (key nonce bs : List UInt8) (n : UInt32) (w : World) (hk : SB w A 32 c key) (hn : SB w B 12 d nonce) (hs : SB w D l e bs) (hl : l ≤ 100000) :
    Calls Try.prog 19 #[.slice A 32 c, .slice B 12 d, b32 n, .slice D l e] w (NewB 5 w (cryptF key nonce n bs)) := by
  have hlen := lib_hid hs.len
  have hcap := hs.cap
  have hmx := hs.max
  unfold maxLen at hmx
  obtain ⟨out, Hout, outl⟩ : ∃ o, Hid (cryptF key nonce n bs = o) ∧ Hid (o.length = l) := ⟨_, lib_hid rfl, by unfold Hid; rw [cryptF_len]; exact hlen.out⟩
  rw [Hout.out]
  obtain ⟨blkOfN, HB⟩ : ∃ f : Nat → List UInt8, Hid (∀ q, blockC key nonce (n + UInt32.ofNat q) = f q) := ⟨_, lib_hid (fun _ => rfl)⟩
  have HBl : Hid (∀ q, (blkOfN q).length = 64) := fun q => by rw [← HB.out]; exact blockC_len _ _ _
  have Hat : Hid (∀ i q r, i < l → i = 64 * q + r → r < 64 → out[i]? = some (bs.getD i 0 ^^^ (blkOfN q).getD r 0)) := fun i q r hi hq hr => by
    rw [← Hout.out, ← HB.out]; exact cryptF_at key nonce n bs i q r (by rw [hlen.out]; exact hi) hq hr
  have HBk : Hid (∀ W, Grows w W → ∀ q (x : UInt32), x = n + UInt32.ofNat q → Calls Try.prog 29 #[.slice A 32 c, .slice B 12 d, b32 x] W (NewB 5 W (blkOfN q))) := fun W hW q x hx => by
    rw [hx, ← HB.out]; exact refBlock_any A B c d key nonce _ W (hk.grows hW) (hn.grows hW)
  have HS := lib_hid hs
  clear hk hn hs Hout HB
  go_enter Try.func19, Try.ntmps19
  go_wp2
  go_loopw [9, 10, 11] (fun v kv iv wr => ∃ (i : Nat) (C : Option Addr) (ce : Nat) (Ak : Option Addr) (nk ck : Nat), i ≤ l ∧ iv = .int .i64 i ∧ v = .slice C i ce ∧ kv = .slice Ak nk ck ∧ Grows w wr ∧ Hid (wr.ownsRow w.heap.size 5 1 (.slice C i ce) i ((out.take i).map b8)) ∧ Hid (∀ q r, i = 64 * q + r → 0 < r → r < 64 → nk = 64 ∧ SB wr Ak 64 ck (blkOfN q) ∧ (∀ p, Ak = some p → some p.block ≠ (blkOf C)))) (fun _ _ iv _ => l - (intOf iv).toNat)
  case atStart => exact ⟨0, none, 0, none, 0, 0, by omega, rfl, rfl, rfl, Grows.refl _, World.ownsRow_nil _ _ _ _, lib_hid (fun q r h1 h2 h3 => by omega)⟩
  case round =>
    obtain ⟨i, C, ce, Ak0, nk0, ck0, hi, rfl, rfl, rfl, hg, HO, HK0⟩ := hrel
    obtain ⟨q, r, Hqr, hr64⟩ : ∃ q r, Hid (i = 64 * q + r) ∧ r < 64 := ⟨i / 64, i % 64, by unfold Hid; omega, by omega⟩
    have hrem : (i : Int).tmod 64 = (r : Int) := by have := Hqr.out; rw [Int.tmod_eq_emod_of_nonneg (by omega)]; omega
    have hquo : (i : Int).tdiv 64 = (q : Int) := by have := Hqr.out; rw [Int.tdiv_eq_ediv_of_nonneg (by omega)]; omega
    have hrem' : (i : Int) % 64 = (r : Int) := by have := Hqr.out; omega
    have hquo' : (i : Int) / 64 = (q : Int) := by have := Hqr.out; omega
    by_cases hlt : i < l
    · obtain ⟨x, Hx⟩ : ∃ x, Hid (bs.getD i 0 = x) := ⟨_, lib_hid rfl⟩
      obtain ⟨blk, Hblk⟩ : ∃ x, Hid (blkOfN q = x) := ⟨_, lib_hid rfl⟩
      obtain ⟨y, Hy⟩ : ∃ x, Hid (blk.getD r 0 = x) := ⟨_, lib_hid rfl⟩
      have Hbl : Hid (blk.length = 64) := by unfold Hid; rw [← Hblk.out]; exact HBl.out q
      have Hs : Hid (out.take (i + 1) = out.take i ++ [x ^^^ y]) := by
        unfold Hid; rw [List.take_add_one, Hat.out i q r hlt Hqr.out hr64, Hx.out, Hblk.out, Hy.out]; rfl
      have hxy := u8_xor x y
      by_cases hr0 : r = 0
      · have h0 : (r : Int) = 0 := by omega
        have Hr0 := lib_hid hr0
        clear hr0
        obtain ⟨qk, Hqk, hqk⟩ : ∃ x : UInt32, Hid (UInt32.ofNat q = x) ∧ IntKind.u32.wrap (q : Int) = (x.toNat : Int) := ⟨_, lib_hid rfl, u32_wrap_nat q⟩
        obtain ⟨nk, Hnk, hnk⟩ : ∃ x : UInt32, Hid (n + qk = x) ∧ IntKind.u32.wrap ((n.toNat : Int) + (qk.toNat : Int)) = (x.toNat : Int) := ⟨_, lib_hid rfl, u32_wrap_add _ _⟩
        clear HK0
        go_wp2_with fail
        refine (HBk.out wr hg q nk (by rw [← Hnk.out, ← Hqk.out])).mono ?_
        rintro e w1 ⟨Ak, n1, ck, hn1, rfl, hg1, ho1⟩
        obtain rfl : n1 = 64 := by rw [hn1.out]; exact HBl.out q
        have HO2 := lib_hid (own_grows HO.out hg1)
        rw [Hblk.out] at ho1
        have HK := lib_hid (SB.own ho1)
        have HN : Hid (∀ b, blkOf Ak = some b → blkOf C ≠ some b) := fun b hb e => by
          have h1 := own_lt ho1 b hb
          have h2 := own_lt HO.out b e
          omega
        have hg2 := hg.trans hg1
        clear ho1 HO h0
        obtain ⟨bk, ok, rfl, hbk, hck⟩ := HK.out.at (by omega)
        obtain ⟨b1, o1, rfl, hbl1, hc1⟩ := (HS.out.grows hg2).at (by omega)
        have Hf : Hid (∀ W, Grows w1 W → W.cell? ⟨b1, o1 + i, none⟩ = some (.int .u8 x.toNat) ∧ W.cell? ⟨bk, ok + r, none⟩ = some (.int .u8 y.toNat)) := fun W hW =>
          ⟨by rw [hW.cell (p := ⟨b1, o1 + i, none⟩) hbl1, hc1 i (by have := hlen.out; omega), blkAt_getD, Hx.out], by rw [hW.cell (p := ⟨bk, ok + r, none⟩) hbk, hck r (by have := Hbl.out; omega), blkAt_getD, Hy.out]⟩
        clear hc1 hck hg1 hquo hquo' hg
        go_upto_region 7 with fail
        apply wp_region_mono 12 ((.is _, []) :: (.is _, []) :: (.is _, []) :: (.is _, []) :: (.is _, []) :: (.is _, []) :: (.is _, []) :: (.is _, []) :: (.is _, []) :: (.is _, []) :: (.is _, []) :: (.pr (fun v W => ∃ b, v = .slice (some ⟨b, 0, none⟩) 1 1 ∧ Blk W b 5 #[b8 (x ^^^ y)]), []) :: []) (by kernel_rfl) (by kernel_rfl)
        iterate 4
          apply Mono.is0
          · kernel_rfl
          · intro W hW
            go_wp2
            refine ⟨rfl, rfl, Grows.refl _, ?_⟩
            unfold Oper.valAt
            go_simp
            rfl
          intro k1 a1 hk1 ha1
          simp only [Nat.reduceAdd] at hk1
          simp only [Act.put, List.setIfInBounds_toArray, List.set_cons_succ, List.set_cons_zero] at ha1
          subst hk1 ha1
        apply Mono.is0
        · kernel_rfl
        · intro W hW
          obtain ⟨f1, f2⟩ := Hf.out W hW
          go_wp2
          refine ⟨rfl, rfl, Grows.refl _, ?_⟩
          unfold Oper.valAt
          go_simp
          rfl
        intro k1 a1 hk1 ha1
        simp only [Nat.reduceAdd] at hk1
        simp only [Act.put, List.setIfInBounds_toArray, List.set_cons_succ, List.set_cons_zero] at ha1
        subst hk1 ha1
        iterate 2
          apply Mono.is0
          · kernel_rfl
          · intro W hW
            go_wp2
            refine ⟨rfl, rfl, Grows.refl _, ?_⟩
            unfold Oper.valAt
            go_simp
            rfl
          intro k1 a1 hk1 ha1
          simp only [Nat.reduceAdd] at hk1
          simp only [Act.put, List.setIfInBounds_toArray, List.set_cons_succ, List.set_cons_zero] at ha1
          subst hk1 ha1
        apply Mono.is0
        · kernel_rfl
        · intro W hW
          have hrem := hrem
          go_wp2
          refine ⟨rfl, rfl, Grows.refl _, ?_⟩
          unfold Oper.valAt
          go_simp
          rfl
        intro k1 a1 hk1 ha1
        simp only [Nat.reduceAdd] at hk1
        simp only [Act.put, List.setIfInBounds_toArray, List.set_cons_succ, List.set_cons_zero] at ha1
        subst hk1 ha1
        apply Mono.is0
        · kernel_rfl
        · intro W hW
          have hrem := hrem
          go_wp2
          refine ⟨rfl, rfl, Grows.refl _, ?_⟩
          unfold Oper.valAt
          go_simp
          rfl
        intro k1 a1 hk1 ha1
        simp only [Nat.reduceAdd] at hk1
        simp only [Act.put, List.setIfInBounds_toArray, List.set_cons_succ, List.set_cons_zero] at ha1
        subst hk1 ha1
        apply Mono.is0
        · kernel_rfl
        · intro W hW
          obtain ⟨f1, f2⟩ := Hf.out W hW
          go_wp2
          refine ⟨rfl, rfl, Grows.refl _, ?_⟩
          unfold Oper.valAt
          go_simp
          rfl
        intro k1 a1 hk1 ha1
        simp only [Nat.reduceAdd] at hk1
        simp only [Act.put, List.setIfInBounds_toArray, List.set_cons_succ, List.set_cons_zero] at ha1
        subst hk1 ha1
        apply Mono.is0
        · kernel_rfl
        · intro W hW
          have hxy := hxy
          go_wp2
          refine ⟨rfl, rfl, Grows.refl _, ?_⟩
          unfold Oper.valAt
          go_simp
          rfl
        intro k1 a1 hk1 ha1
        simp only [Nat.reduceAdd] at hk1
        simp only [Act.put, List.setIfInBounds_toArray, List.set_cons_succ, List.set_cons_zero] at ha1
        subst hk1 ha1
        apply Mono.pr0
        · kernel_rfl
        · exact fun v W W' hW ⟨b, hv, hb⟩ => ⟨b, hv, hb.grows hW⟩
        · intro W hW 
          go_wp2
          exact ⟨rfl, rfl, (Grows.refl _).alloc _, _, rfl, Blk.new _ _ _⟩
        intro v11
        intro k1 a1 hk1 ha1
        simp only [Nat.reduceAdd] at hk1
        simp only [Act.put, List.setIfInBounds_toArray, List.set_cons_succ, List.set_cons_zero] at ha1
        subst hk1 ha1
        refine Mono.done ?_
        intro wm hgm
        simp only [allF, List.drop_succ_cons, List.drop_zero]
        intro g11
        obtain ⟨b, rfl, hb⟩ := g11
        have HR := lib_hid (And.intro (hb.row (o := 0) (n := 1) (c := 1) (Nat.le_refl _) (by simp) (by unfold maxLen; omega)) (own_grows HO2.out hgm))
        have hg3 := hg2.trans hgm
        have HK3 := lib_hid (HK.out.grows hgm)
        have hsz := hg3.le
        clear hb Hf hxy hgm
        go_wp2_with (at_builtin; refine wpList_append2 rfl _ _ 22 rfl w.heap.size 5 (.int .u8 0) 1 Try.underlying22 Try.infoByte rfl C ce i _ rfl HR.out.2 _ 1 _ [b8 (x ^^^ y)] rfl HR.out.1 (b8_one [x ^^^ y]) (by omega) (by omega) hsz ?_; intro A' c' w' ho' hgb hloc)
        have HO' : Hid (w'.ownsRow w.heap.size 5 1 (.slice A' (i + 1) c') (i + 1) (((out).take (i + 1)).map b8)) := by unfold Hid; rw [Hs.out, List.map_append]; exact ho'
        have hg' : Grows w w' := hg3.grown hgb (fun k hk => ((own_lt HR.out.2) k hk).1)
        have HK4 : Hid (SB w' (some ⟨bk, ok, none⟩) 64 ck blk) := HK3.out.grownBy hgb (fun b hb e => HN.out b hb e)
        have HL : Hid (some bk ≠ blkOf A') := fun e => by
          rcases hloc with h | h
          · exact HN.out bk rfl (by rw [← h, ← e])
          · have h1 := HK3.out.lt (by omega) bk rfl
            rw [h] at e; have := Option.some.inj e; omega
        clear ho' hgb hloc
        go_roundw
        case rel =>
          refine ⟨i + 1, A', c', some ⟨bk, ok, none⟩, 64, ck, by omega, by go_num, rfl, rfl, hg', HO', lib_hid (fun q' r' h1 h2 h3 => ?_)⟩
          have := Hqr.out
          obtain rfl : q' = q := by omega
          rw [Hblk.out]
          exact ⟨rfl, HK4.out, fun p hp => by cases hp; exact HL.out⟩
        case measure => simp [intOf]; omega
      · have h0 : ¬ (r : Int) = 0 := by omega
        have Hr0 := lib_hid hr0
        clear hr0
        obtain ⟨hnk, hK, hN⟩ := HK0.out q r Hqr.out (Nat.pos_of_ne_zero Hr0.out) hr64
        obtain ⟨Ak, ck, e1, e2⟩ : ∃ (Ak : Option Addr) (ck : Nat), Ak = Ak0 ∧ ck = ck0 := ⟨_, _, rfl, rfl⟩
        subst e1 e2 hnk
        rw [Hblk.out] at hK
        have HN : Hid (∀ b, blkOf Ak = some b → blkOf C ≠ some b) := fun b hb e => by
          obtain ⟨p, hp, hpb⟩ := Option.map_eq_some_iff.1 hb
          exact hN p hp (by rw [hpb, ← e])
        have HK := lib_hid hK
        have HO2 := lib_hid HO.out
        have hg2 := hg
        clear hK hN HK0 HO
        obtain ⟨bk, ok, rfl, hbk, hck⟩ := HK.out.at (by omega)
        obtain ⟨b1, o1, rfl, hbl1, hc1⟩ := (HS.out.grows hg2).at (by omega)
        have Hf : Hid (∀ W, Grows wr W → W.cell? ⟨b1, o1 + i, none⟩ = some (.int .u8 x.toNat) ∧ W.cell? ⟨bk, ok + r, none⟩ = some (.int .u8 y.toNat)) := fun W hW =>
          ⟨by rw [hW.cell (p := ⟨b1, o1 + i, none⟩) hbl1, hc1 i (by have := hlen.out; omega), blkAt_getD, Hx.out], by rw [hW.cell (p := ⟨bk, ok + r, none⟩) hbk, hck r (by have := Hbl.out; omega), blkAt_getD, Hy.out]⟩
        clear hc1 hck hquo hquo' hg
        go_upto_region 7 with fail
        apply wp_region_mono 12 ((.is _, []) :: (.is _, []) :: (.is _, []) :: (.is _, []) :: (.is _, []) :: (.is _, []) :: (.is _, []) :: (.is _, []) :: (.is _, []) :: (.is _, []) :: (.is _, []) :: (.pr (fun v W => ∃ b, v = .slice (some ⟨b, 0, none⟩) 1 1 ∧ Blk W b 5 #[b8 (x ^^^ y)]), []) :: []) (by kernel_rfl) (by kernel_rfl)
        iterate 4
          apply Mono.is0
          · kernel_rfl
          · intro W hW
            go_wp2
            refine ⟨rfl, rfl, Grows.refl _, ?_⟩
            unfold Oper.valAt
            go_simp
            rfl
          intro k1 a1 hk1 ha1
          simp only [Nat.reduceAdd] at hk1
          simp only [Act.put, List.setIfInBounds_toArray, List.set_cons_succ, List.set_cons_zero] at ha1
          subst hk1 ha1
        apply Mono.is0
        · kernel_rfl
        · intro W hW
          obtain ⟨f1, f2⟩ := Hf.out W hW
          go_wp2
          refine ⟨rfl, rfl, Grows.refl _, ?_⟩
          unfold Oper.valAt
          go_simp
          rfl
        intro k1 a1 hk1 ha1
        simp only [Nat.reduceAdd] at hk1
        simp only [Act.put, List.setIfInBounds_toArray, List.set_cons_succ, List.set_cons_zero] at ha1
        subst hk1 ha1
        iterate 2
          apply Mono.is0
          · kernel_rfl
          · intro W hW
            go_wp2
            refine ⟨rfl, rfl, Grows.refl _, ?_⟩
            unfold Oper.valAt
            go_simp
            rfl
          intro k1 a1 hk1 ha1
          simp only [Nat.reduceAdd] at hk1
          simp only [Act.put, List.setIfInBounds_toArray, List.set_cons_succ, List.set_cons_zero] at ha1
          subst hk1 ha1
        apply Mono.is0
        · kernel_rfl
        · intro W hW
          have hrem := hrem
          go_wp2
          refine ⟨rfl, rfl, Grows.refl _, ?_⟩
          unfold Oper.valAt
          go_simp
          rfl
        intro k1 a1 hk1 ha1
        simp only [Nat.reduceAdd] at hk1
        simp only [Act.put, List.setIfInBounds_toArray, List.set_cons_succ, List.set_cons_zero] at ha1
        subst hk1 ha1
        apply Mono.is0
        · kernel_rfl
        · intro W hW
          have hrem := hrem
          go_wp2
          refine ⟨rfl, rfl, Grows.refl _, ?_⟩
          unfold Oper.valAt
          go_simp
          rfl
        intro k1 a1 hk1 ha1
        simp only [Nat.reduceAdd] at hk1
        simp only [Act.put, List.setIfInBounds_toArray, List.set_cons_succ, List.set_cons_zero] at ha1
        subst hk1 ha1
        apply Mono.is0
        · kernel_rfl
        · intro W hW
          obtain ⟨f1, f2⟩ := Hf.out W hW
          go_wp2
          refine ⟨rfl, rfl, Grows.refl _, ?_⟩
          unfold Oper.valAt
          go_simp
          rfl
        intro k1 a1 hk1 ha1
        simp only [Nat.reduceAdd] at hk1
        simp only [Act.put, List.setIfInBounds_toArray, List.set_cons_succ, List.set_cons_zero] at ha1
        subst hk1 ha1
        apply Mono.is0
        · kernel_rfl
        · intro W hW
          have hxy := hxy
          go_wp2
          refine ⟨rfl, rfl, Grows.refl _, ?_⟩
          unfold Oper.valAt
          go_simp
          rfl
        intro k1 a1 hk1 ha1
        simp only [Nat.reduceAdd] at hk1
        simp only [Act.put, List.setIfInBounds_toArray, List.set_cons_succ, List.set_cons_zero] at ha1
        subst hk1 ha1
        apply Mono.pr0
        · kernel_rfl
        · exact fun v W W' hW ⟨b, hv, hb⟩ => ⟨b, hv, hb.grows hW⟩
        · intro W hW 
          go_wp2
          exact ⟨rfl, rfl, (Grows.refl _).alloc _, _, rfl, Blk.new _ _ _⟩
        intro v11
        intro k1 a1 hk1 ha1
        simp only [Nat.reduceAdd] at hk1
        simp only [Act.put, List.setIfInBounds_toArray, List.set_cons_succ, List.set_cons_zero] at ha1
        subst hk1 ha1
        refine Mono.done ?_
        intro wm hgm
        simp only [allF, List.drop_succ_cons, List.drop_zero]
        intro g11
        obtain ⟨b, rfl, hb⟩ := g11
        have HR := lib_hid (And.intro (hb.row (o := 0) (n := 1) (c := 1) (Nat.le_refl _) (by simp) (by unfold maxLen; omega)) (own_grows HO2.out hgm))
        have hg3 := hg2.trans hgm
        have HK3 := lib_hid (HK.out.grows hgm)
        have hsz := hg3.le
        clear hb Hf hxy hgm
        go_wp2_with (at_builtin; refine wpList_append2 rfl _ _ 22 rfl w.heap.size 5 (.int .u8 0) 1 Try.underlying22 Try.infoByte rfl C ce i _ rfl HR.out.2 _ 1 _ [b8 (x ^^^ y)] rfl HR.out.1 (b8_one [x ^^^ y]) (by omega) (by omega) hsz ?_; intro A' c' w' ho' hgb hloc)
        have HO' : Hid (w'.ownsRow w.heap.size 5 1 (.slice A' (i + 1) c') (i + 1) (((out).take (i + 1)).map b8)) := by unfold Hid; rw [Hs.out, List.map_append]; exact ho'
        have hg' : Grows w w' := hg3.grown hgb (fun k hk => ((own_lt HR.out.2) k hk).1)
        have HK4 : Hid (SB w' (some ⟨bk, ok, none⟩) 64 ck blk) := HK3.out.grownBy hgb (fun b hb e => HN.out b hb e)
        have HL : Hid (some bk ≠ blkOf A') := fun e => by
          rcases hloc with h | h
          · exact HN.out bk rfl (by rw [← h, ← e])
          · have h1 := HK3.out.lt (by omega) bk rfl
            rw [h] at e; have := Option.some.inj e; omega
        clear ho' hgb hloc
        go_roundw
        case rel =>
          refine ⟨i + 1, A', c', some ⟨bk, ok, none⟩, 64, ck, by omega, by go_num, rfl, rfl, hg', HO', lib_hid (fun q' r' h1 h2 h3 => ?_)⟩
          have := Hqr.out
          obtain rfl : q' = q := by omega
          rw [Hblk.out]
          exact ⟨rfl, HK4.out, fun p hp => by cases hp; exact HL.out⟩
        case measure => simp [intOf]; omega
    · have Hfin : Hid (out.take i = out) := by unfold Hid; rw [List.take_of_length_le (by rw [outl.out]; omega)]
      have HF : Hid (wr.ownsRow w.heap.size 5 1 (.slice C i ce) i (out.map b8)) := by have := HO.out; rw [Hfin.out] at this; exact this
      have hil : Hid (i = out.length) := by unfold Hid; rw [outl.out]; omega
      clear hrem hquo hrem' hquo' HO HK0 Hfin
      go_wp2
      go_ret
      exact ⟨C, i, ce, hil, rfl, hg, HF.out⟩

end Go.Proofs.Ytgolndfimhogoaa
