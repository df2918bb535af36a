/-
  gcm.First at an IV of 12 bytes, gcm.stream.
-/
import Derived.Test.YthcmdjaccjghjaaGcm2
import Derived.Deep.Cut
namespace Go.Proofs.Ythcmdjaccjghjaa
open Go Go.RowKit
set_option linter.unusedSimpArgs false
set_option linter.unusedVariables false


theorem run_sl_hA {P : Program} {t e : TypeId} (ht : P.underlying t = some (.slice e)) (hs : (P.info? e).map (·.size) = some 1) (A : Option Addr) (n c hi : Nat) (h : Int) (hh : h = hi) (h1 : hi ≤ c) (W : World) :
    Sem.run P (Instr.slice t (.slice A n c) none (some (.int .i64 h)) none) W = .ok (.slice A hi c) W := by
  have e2 : P.elem t = e := by simp [Program.elem, ht]
  obtain ⟨i, hi', hi1⟩ := Option.map_eq_some_iff.1 hs
  have hz : (sizeOf e).run P W = .ok 1 W := by simp [sizeOf, typeInfo, hi', hi1]
  subst hh
  rw [run_slice_h (w := W) t A n c (by rw [e2]; exact ht) .i64 hi (by omega) (by omega), e2, hz]
  simp only [Result.andThen_ok, sliced, Int.toNat_natCast, Nat.sub_zero, Nat.zero_mul]
  cases A with
  | none => split <;> rfl
  | some p => split
              · rfl
              · obtain ⟨b, o, s⟩ := p
                cases s <;> simp [Addr.add]
theorem sb_head {w : World} {A : Option Addr} {n c m : Nat} {xs : List UInt8} (h : SB w A n c xs) (hm : m ≤ n) : SB w A m c (xs.take m) := by
  have hl := h.len
  refine ⟨by rw [List.length_map, List.length_take, hl]; omega, Nat.le_trans hm h.2.1, h.2.2.1, h.2.2.2.1, fun h0 => ?_⟩
  obtain ⟨b, off, e, hb, hc⟩ := h.2.2.2.2 (by omega)
  refine ⟨b, off, e, hb, fun j hj => ?_⟩
  rw [hc j (by omega), List.getElem?_map, List.getElem?_map, List.getElem?_take, if_pos hj]
/-- The first counter of an IV of 12 bytes. -/
def firstG (iv : List UInt8) : List UInt8 := iv ++ [0, 0, 0, 1]
set_option maxRecDepth 100000 in
set_option maxHeartbeats 4000000 in
theorem first_any (B g nr : Nat) (TT ws iv : List UInt8) (A : Option Addr) (c : Nat) (w : World) (hK : KeyR w B g TT ws nr) (h1 : 1 ≤ nr) (hnr : nr ≤ 14) (hs : SB w A 12 c iv) :
    Calls Try.prog 14 #[.pointer (some ⟨g, 0, none⟩), .slice A 12 c] w fun e w' => e = .returned (.agg ((firstG iv).map b8).toArray) ∧ Grows w w' := by
  have HS := lib_hid hs
  have hil := lib_hid hs.len
  have HRi : Hid (∀ W, Grows w W → Calls Try.prog 37 #[.pointer (some ⟨g, 0, none⟩), .slice A 12 c] W fun e w' => e = .returned (.int .i64 0) ∧ W = w') := fun W hW => by
    have hB : B ≤ w.heap.size := by obtain ⟨_, _, _, _, _, _, h, _⟩ := hK; exact h
    exact right_any B g nr TT ws A 12 c W (hK.below (hW.mono hB)) h1 hnr (by omega)
  obtain ⟨p0, Hp0⟩ : ∃ p0, Hid (w.heap.size = p0) := ⟨_, lib_hid rfl⟩
  obtain ⟨W0, HW0⟩ : ∃ W0, Hid (w.alloc (.cells #[.int .u8 0, .int .u8 0, .int .u8 0, .int .u8 0, .int .u8 0, .int .u8 0, .int .u8 0, .int .u8 0, .int .u8 0, .int .u8 0, .int .u8 0, .int .u8 0, .int .u8 0, .int .u8 0, .int .u8 0, .int .u8 0] 23) = W0) := ⟨_, lib_hid rfl⟩
  have HB0 : Hid (Blk W0 p0 23 #[.int .u8 0, .int .u8 0, .int .u8 0, .int .u8 0, .int .u8 0, .int .u8 0, .int .u8 0, .int .u8 0, .int .u8 0, .int .u8 0, .int .u8 0, .int .u8 0, .int .u8 0, .int .u8 0, .int .u8 0, .int .u8 0]) := by unfold Hid; rw [← HW0.out, ← Hp0.out]; exact Blk.new w _ _
  have HG0 : Hid (Grows w W0) := by unfold Hid; rw [← HW0.out]; exact (Grows.refl w).alloc _
  have hsz0 : Hid (W0.heap.size = p0 + 1) := by unfold Hid; rw [← HW0.out, ← Hp0.out]; simp
  clear hK hs
  go_enter Try.func14, Try.ntmps14
  go_upto_region 1 with fail
  rw [HW0.out, Hp0.out]
  go_wp2_with fail
  refine (HRi.out W0 HG0.out).mono ?_
  rintro e w1 ⟨rfl, rfl⟩
  go_upto_region 4 with fail
  go_wp2_with fail
  obtain ⟨W2, HW2⟩ : ∃ W2, Hid ((W0.alloc (.cells #[.int .u8 0, .int .u8 0, .int .u8 0, .int .u8 1] 5)).alloc (.cells #[.slice A 12 c, .slice (some ⟨W0.heap.size, 0, none⟩) 4 4] 26) = W2) := ⟨_, lib_hid rfl⟩
  obtain ⟨q2, Hq2⟩ : ∃ q2, Hid ((W0.alloc (.cells #[.int .u8 0, .int .u8 0, .int .u8 0, .int .u8 1] 5)).heap.size = q2) := ⟨_, lib_hid rfl⟩
  have HG2 : Hid (Grows W0 W2) := by unfold Hid; rw [← HW2.out]; exact ((Grows.refl W0).alloc _).alloc _
  have HRw : Hid (RowsB W2 (some ⟨q2, 0, none⟩) 2 2 [iv, [0, 0, 0, 1]]) := by
    have hz : SB (W0.alloc (.cells #[.int .u8 0, .int .u8 0, .int .u8 0, .int .u8 1] 5)) (some ⟨W0.heap.size, 0, none⟩) 4 4 [0, 0, 0, 1] := sb_litT W0 5 [0, 0, 0, 1] (by simp)
    unfold Hid; rw [← HW2.out, ← Hq2.out]
    exact rows_two (Blk.new _ 26 _) ((HS.out.grows (HG0.out.alloc _)).grows ((Grows.refl _).alloc _)) (hz.grows ((Grows.refl _).alloc _))
  have hq2e : W0.heap.size + 1 = q2 := by rw [← Hq2.out]; simp
  rw [HW2.out, hq2e]
  refine (concat_any [iv, [0, 0, 0, 1]] _ _ _ W2 HRw.out (by omega) (by show (iv ++ ([0, 0, 0, 1] ++ [])).length ≤ _; rw [List.append_nil, List.length_append, hil.out]; decide)).mono ?_
  rintro e w5 ⟨C, nc, cc, hnc5, rfl, hg5, ho5⟩
  have hF : flatB [iv, [0, 0, 0, 1]] = firstG iv := rfl
  rw [hF] at hnc5 ho5
  obtain ⟨z, Hz, hzl⟩ : ∃ z, Hid (firstG iv = z) ∧ z.length = 16 := ⟨_, lib_hid rfl, by unfold firstG; rw [List.length_append, hil.out]; rfl⟩
  rw [Hz.out] at hnc5 ho5
  obtain rfl : nc = 16 := by rw [hnc5.out, hzl]
  obtain ⟨res, hres⟩ : ∃ res, Hid ((z.map b8).toArray = res) := ⟨_, lib_hid rfl⟩
  have hcl : res.size = 16 := by rw [← hres.out]; simp [hzl]
  have hca : res.all (·.oneCell') = true := by rw [← hres.out]; exact cells_all _
  have hs5 := SB.own ho5
  obtain ⟨b1, o1, rfl, _, _⟩ := hs5.2.2.2.2 (by omega)
  have HR1 : Hid (Row w5 (some ⟨b1, o1, none⟩) 16 cc (z.map b8)) := lib_hid hs5
  have HG5 : Hid (Grows W0 w5) := lib_hid (HG2.out.trans hg5)
  have HB5 := lib_hid (HB0.out.grows HG5.out)
  have hat := fun W => run_arrayAtA (Pr := Try.prog) Try.underlying23 (some ⟨b1, o1, none⟩) 16 cc (by omega) W
  clear hs5 ho5 hnc5 hg5 HRw HW2 HG2
  go_wp2_with (first
    | (refine wpList_load_part rfl _ _ rfl ⟨b1, o1, none⟩ rfl 16 cc _ _ HR1.out Try.underlying23 rfl Try.size16 ?_; rw [hres.out])
    | (refine wpList_store_blk rfl _ _ _ rfl p0 res rfl rfl _ _ HB5.out (by rw [Try.size16, hcl]) (by rw [hcl]; rfl) hca p0 w5 (Below.refl _ _) (Nat.le_refl _) ?_; intro w6 HR6 hb6 hgr6))
  refine bodyPost_ret (results_cell_row rfl _ _ p0 _ res _ _ rfl HR6 Try.underlying23 rfl (by rw [Try.size16, hcl])) rfl ?_
  exact ⟨by rw [← hres.out, Hz.out], Below.trans (HG0.out.trans HG5.out) (hb6.mono (by have := Hp0.out; omega))⟩
def fB (f : List UInt8) (n : UInt32) : Nat → List UInt8
  | 0 => f
  | i + 1 => splice (fB f n i) 12 (putBigF (UInt64.ofNat (n + UInt32.ofNat i + 1).toNat) 4)
def oB (E : List UInt8 → List UInt8) (f : List UInt8) (n : UInt32) : Nat → List UInt8
  | 0 => []
  | i + 1 => oB E f n i ++ E (fB f n (i + 1))
def ctrN (f : List UInt8) : UInt32 := UInt32.ofNat (bigF (f.drop 12)).toNat
def strmF (E : List UInt8 → List UInt8) (f : List UInt8) (many : Nat) : List UInt8 := (oB E f (ctrN f) ((many + 15) / 16)).take many
theorem oB_len {E : List UInt8 → List UInt8} (hE : ∀ xs, (E xs).length = 16) (f : List UInt8) (n : UInt32) : ∀ i, (oB E f n i).length = 16 * i
  | 0 => rfl
  | i + 1 => by rw [oB, List.length_append, oB_len hE f n i, hE]; omega
theorem strmF_len {E : List UInt8 → List UInt8} (hE : ∀ xs, (E xs).length = 16) (f : List UInt8) (many : Nat) : (strmF E f many).length = many := by
  unfold strmF; rw [List.length_take, oB_len hE]; omega
theorem fB_len (f : List UInt8) (n : UInt32) (hf : f.length = 16) : ∀ i, (fB f n i).length = 16
  | 0 => hf
  | i + 1 => by
    rw [fB]; unfold splice
    have := fB_len f n hf i
    simp [this, putBigF, putLittleF]
set_option maxRecDepth 100000 in
set_option maxHeartbeats 4000000 in
theorem stream_any (B g nr : Nat) (TT ws f : List UInt8) (many : Nat) (w : World) (hK : KeyR w B g TT ws nr) (h1 : 1 ≤ nr) (hnr : nr ≤ 14) (hf : f.length = 16) (hm : many ≤ 1000) :
    Calls Try.prog 28 #[.pointer (some ⟨g, 0, none⟩), .agg (f.map b8).toArray, .int .i64 (many : Int)] w fun e w' => ∃ A c, e = .returned (.slice A many c) ∧ Grows w w' ∧ SB w' A many c (strmF (encF TT ws nr) f many) := by
  obtain ⟨E, HE, hE⟩ : ∃ E : List UInt8 → List UInt8, Hid (encF TT ws nr = E) ∧ Hid (∀ xs, (E xs).length = 16) := ⟨_, lib_hid rfl, lib_hid (fun xs => encF_len TT ws nr xs)⟩
  rw [HE.out]
  have HEn : Hid (∀ (xs : List UInt8) (W : World), xs.length = 16 → Below w.heap.size w W → Calls Try.prog 13 #[.pointer (some ⟨g, 0, none⟩), .agg (xs.map b8).toArray] W fun e w' => e = .returned (.agg ((E xs).map b8).toArray) ∧ Grows W w') := fun xs W hx hW => by
    have hB : B ≤ w.heap.size := by obtain ⟨_, _, _, _, _, _, h, _⟩ := hK; exact h
    have := encrypt_any B g nr TT ws xs W (hK.below (hW.mono hB)) hx h1 hnr
    rw [HE.out] at this
    exact this
  obtain ⟨cs, Hcs, hcs⟩ : ∃ cs, Hid ((f.map b8).toArray = cs) ∧ cs.size = 16 := ⟨_, lib_hid rfl, by simp [hf]⟩
  rw [Hcs.out]
  obtain ⟨p0, Hp0⟩ : ∃ p0, Hid (w.heap.size = p0) := ⟨_, lib_hid rfl⟩
  obtain ⟨W0, HW0⟩ : ∃ W0, Hid (w.alloc (.cells cs 23) = W0) := ⟨_, lib_hid rfl⟩
  have HB0 : Hid (Blk W0 p0 23 (f.map b8).toArray) := by unfold Hid; rw [Hcs.out, ← HW0.out, ← Hp0.out]; exact Blk.new w _ _
  have HG0 : Hid (Grows w W0) := by unfold Hid; rw [← HW0.out]; exact (Grows.refl w).alloc _
  have hsz0 : Hid (W0.heap.size = p0 + 1) := by unfold Hid; rw [← HW0.out, ← Hp0.out]; simp
  have HS4 : Hid (SB W0 (some ⟨p0, 12, none⟩) 4 4 (f.drop 12)) := by
    have := HB0.out.row (o := 12) (n := 4) (c := 4) (by omega) (by simp [hf]) (by decide)
    rw [← List.map_drop, List.take_of_length_le (by simp [hf])] at this
    exact lib_hid this
  have Hs12 : Hid (∀ W, Sem.run Try.prog (Instr.sliceAt 23 (.pointer (some ⟨p0, 0, none⟩)) (some (.int .i64 12)) none none) W = .ok (.slice (some ⟨p0, 12, none⟩) 4 4) W) := fun W => run_slice_arr_l Try.underlying23 Try.sizeByte p0 12 12 rfl (by omega) W
  obtain ⟨x, Hx⟩ : ∃ x, Hid (bigF (f.drop 12) = x) := ⟨_, lib_hid rfl⟩
  obtain ⟨n, Hn, hn⟩ : ∃ n : UInt32, Hid (ctrN f = n) ∧ IntKind.u32.wrap (x.toNat : Int) = (n.toNat : Int) := ⟨_, lib_hid rfl, by unfold ctrN; rw [u32_wrap_nat, Hx.out]⟩
  have HBg : Hid (Calls Try.prog 25 #[.slice (some ⟨p0, 12, none⟩) 4 4] W0 fun e w' => e = .returned (.int .u64 (x.toNat : Int)) ∧ W0 = w') := by
    rw [← Hx.out]; exact big_any _ _ _ _ W0 HS4.out
  obtain ⟨cnt, Hcnt, hcnt⟩ : ∃ cnt : Nat, Hid ((many + 15) / 16 = cnt) ∧ ((many : Int) + 15) / 16 = (cnt : Int) := ⟨_, lib_hid rfl, by omega⟩
  have hcb : cnt ≤ 64 := by have := Hcnt.out; omega
  have hcm : many ≤ 16 * cnt := by have := Hcnt.out; omega
  have hs1 := Hs12.out
  clear hK
  go_enter Try.func28, Try.ntmps28
  go_upto_region 1 with fail
  rw [HW0.out, Hp0.out]
  clear HW0
  go_wp2_with fail
  refine HBg.out.mono ?_
  rintro e w1 ⟨rfl, rfl⟩
  go_upto_region 3 with fail
  clear hs1 HBg HS4
  go_wp2
  go_loopw [8, 18] (fun v i wr => ∃ (j : Nat) (C : Option Addr) (e : Nat), j ≤ cnt ∧ i = .int .i64 (j : Int) ∧ v = .slice C (16 * j) e ∧ Hid (Keeps (fun b => b = p0) W0 wr) ∧ Hid (Blk wr p0 23 ((fB f n j).map b8).toArray) ∧ Hid (wr.ownsRow W0.heap.size 5 1 (.slice C (16 * j) e) (16 * j) ((oB E f n j).map b8))) (fun _ i _ => cnt - (intOf i).toNat)
  case atStart => exact ⟨0, none, 0, Nat.zero_le _, rfl, rfl, lib_hid (Keeps.refl _ _), HB0, lib_hid (World.ownsRow_nil _ _ _ _)⟩
  case round =>
    obtain ⟨i, C, e, hi, rfl, rfl, Hk, HB, HO⟩ := hrel
    clear HB0
    by_cases hlt : i < cnt
    · have hki : (i : Int) < (cnt : Int) := by omega
      have hwi : IntKind.u32.wrap (i : Int) = (i : Int) := by rw [u32_wrap]; omega
      obtain ⟨z, Hz, hz⟩ : ∃ z : UInt32, Hid (n + UInt32.ofNat i = z) ∧ IntKind.u32.wrap ((n.toNat : Int) + (i : Int)) = (z.toNat : Int) := ⟨_, lib_hid rfl, by
        have := u32_wrap_add n (UInt32.ofNat i)
        rw [UInt32.toNat_ofNat', Nat.mod_eq_of_lt (by omega)] at this
        exact this⟩
      obtain ⟨z1, Hz1, hz1⟩ : ∃ z1 : UInt32, Hid (z + 1 = z1) ∧ IntKind.u32.wrap ((z.toNat : Int) + 1) = (z1.toNat : Int) := ⟨_, lib_hid rfl, u32_wrap_add z 1⟩
      have hw64 : IntKind.u64.wrap (z1.toNat : Int) = (z1.toNat : Int) := by rw [u64_wrap]; have := z1.toNat_lt; omega
      obtain ⟨pb, Hpb, pbl⟩ : ∃ pb : List UInt8, Hid (putBigF (UInt64.ofNat z1.toNat) 4 = pb) ∧ Hid (pb.length = 4) := ⟨_, lib_hid rfl, lib_hid (putBigF_len' _ _)⟩
      have HPB : Hid (∀ W, Calls Try.prog 44 #[.int .u64 (z1.toNat : Int), .int .i64 4] W (NewB 5 W pb)) := fun W => by
        have h := putBig_any (UInt64.ofNat z1.toNat) 4 W (by omega)
        rw [UInt64.toNat_ofNat', Nat.mod_eq_of_lt (by have := z1.toNat_lt; omega)] at h
        rw [← Hpb.out]
        exact h
      obtain ⟨F1, HF1, F1l⟩ : ∃ F1 : List UInt8, Hid (fB f n (i + 1) = F1) ∧ Hid (F1.length = 16) := ⟨_, lib_hid rfl, lib_hid (fB_len f n hf _)⟩
      have HSp : Hid (splice (fB f n i) 12 pb = F1) := by unfold Hid; rw [← HF1.out, fB, Hz.out, Hz1.out, Hpb.out]
      have hfl := lib_hid (fB_len f n hf i)
      obtain ⟨e1, He1, e1l⟩ : ∃ e1 : List UInt8, Hid (E F1 = e1) ∧ Hid (e1.length = 16) := ⟨_, lib_hid rfl, lib_hid (hE.out _)⟩
      have HOb : Hid (oB E f n (i + 1) = oB E f n i ++ e1) := by unfold Hid; rw [oB, HF1.out, He1.out]
      go_wp2
      apply wp_region_mono 8 ((.is _, []) :: (.is _, []) :: (.is _, []) :: (.is _, []) :: (.is _, []) :: (.is _, []) :: (.is _, []) :: (.pr (fun v W => ∃ A c, v = .slice A 4 c ∧ SB W A 4 c pb), []) :: []) (by kernel_rfl) (by kernel_rfl)
      apply Mono.is0
      · kernel_rfl
      · intro W hW
        have s1 := Hs12.out W
        go_wp2
        refine ⟨rfl, rfl, Grows.refl _, ?_⟩
        unfold Oper.valAt
        go_simp
        rfl
      intro k1 a1 hk1 ha1
      simp only [Nat.reduceAdd] at hk1
      simp only [Act.put, List.setIfInBounds_toArray, List.set_cons_succ, List.set_cons_zero] at ha1
      subst hk1 ha1
      iterate 6
        apply Mono.is0
        · kernel_rfl
        · intro W hW
          go_wp2
          refine ⟨rfl, rfl, Grows.refl _, ?_⟩
          unfold Oper.valAt
          go_simp
          rfl
        intro k1 a1 hk1 ha1
        simp only [Nat.reduceAdd] at hk1
        simp only [Act.put, List.setIfInBounds_toArray, List.set_cons_succ, List.set_cons_zero] at ha1
        subst hk1 ha1
      apply Mono.pr0
      · kernel_rfl
      · exact fun v W W' hW ⟨A, c, h1, h2⟩ => ⟨A, c, h1, h2.grows hW⟩
      · intro W hW 
        go_wp2_with fail
        refine (HPB.out W).mono ?_
        rintro e w1 ⟨A1, n1, c1, hn1, rfl, hg1, ho1⟩
        obtain rfl : n1 = 4 := by rw [hn1.out, pbl.out]
        have HS1 := lib_hid (SB.own ho1)
        clear ho1 hn1
        go_wp2
        exact ⟨rfl, rfl, hg1, A1, c1, rfl, HS1.out⟩
      intro v7
      intro k1 a1 hk1 ha1
      simp only [Nat.reduceAdd] at hk1
      simp only [Act.put, List.setIfInBounds_toArray, List.set_cons_succ, List.set_cons_zero] at ha1
      subst hk1 ha1
      refine Mono.done ?_
      intro wm hgm
      simp only [allF, List.drop_succ_cons, List.drop_zero]
      intro g7
      obtain ⟨A7, c7, rfl, hs7⟩ := g7
      obtain ⟨b7, o7, rfl, _, _⟩ := hs7.2.2.2.2 (by omega)
      have HS7 := lib_hid hs7
      have HBm := lib_hid (HB.out.grows hgm)
      have HOm := lib_hid (own_grows HO.out hgm)
      have HKm : Hid (Keeps (fun b => b = p0) W0 wm) := lib_hid (Hk.out.trans (hgm.keeps _) (fun _ h _ => h))
      clear hs7 hgm HB HO Hk hz hz1 hw64 hwi HPB
      refine wpList_copy_g rfl _ _ 26 26 rfl 5 Try.underlying26 Try.sizeByte p0 12 4 4 rfl ⟨b7, o7, none⟩ 4 c7 rfl (fB f n i) 23 HBm.out pb HS7.out (by omega) (by rw [hfl.out]; omega) ?_
      intro w8 hb8 hg8
      rw [HSp.out] at hb8
      have HB8 := lib_hid hb8
      have HK8 : Hid (Keeps (fun b => b = p0) W0 w8) := lib_hid (HKm.out.trans (keeps_grown hg8) (fun i e _ => (Option.some.inj e).symm))
      have HO8 : Hid (w8.ownsRow W0.heap.size 5 1 (.slice C (16 * i) e) (16 * i) ((oB E f n i).map b8)) := lib_hid (own_keepsE HOm.out (keeps_grown hg8) (fun j hj e => by have := Option.some.inj e; have := hsz0.out; omega))
      clear hb8 hg8 HBm HOm HKm HS7
      obtain ⟨fc, Hfc, hfc⟩ : ∃ fc, Hid ((F1.map b8).toArray = fc) ∧ fc.size = 16 := ⟨_, lib_hid rfl, by simp [F1l.out]⟩
      have HB8c : Hid (Blk w8 p0 23 fc) := by rw [← Hfc.out]; exact HB8
      have HE8 : Hid (Calls Try.prog 13 #[.pointer (some ⟨g, 0, none⟩), .agg fc] w8 fun e w' => e = .returned (.agg (e1.map b8).toArray) ∧ Grows w8 w') := by
        rw [← Hfc.out, ← He1.out]
        exact HEn.out F1 w8 F1l.out (Below.trans HG0.out (HK8.out.below HG0.out.size (fun i hi => by have := Hp0.out; omega)))
      go_wp2_with (refine wpList_load_blk rfl _ _ rfl p0 rfl 23 fc _ HB8c.out Try.underlying23 rfl (by rw [Try.size16, hfc]) ?_)
      refine HE8.out.mono ?_
      rintro e9 w9 ⟨rfl, hg9⟩
      obtain ⟨ec, Hec, hec⟩ : ∃ ec, Hid ((e1.map b8).toArray = ec) ∧ ec.size = 16 := ⟨_, lib_hid rfl, by simp [e1l.out]⟩
      have HEa : Hid (ec.all (·.oneCell') = true) := by unfold Hid; rw [← Hec.out]; exact cells_all _
      rw [Hec.out]
      have HBz : Hid (Blk (w9.alloc (.cells #[.int .u8 0, .int .u8 0, .int .u8 0, .int .u8 0, .int .u8 0, .int .u8 0, .int .u8 0, .int .u8 0, .int .u8 0, .int .u8 0, .int .u8 0, .int .u8 0, .int .u8 0, .int .u8 0, .int .u8 0, .int .u8 0] 23)) w9.heap.size 23 #[.int .u8 0, .int .u8 0, .int .u8 0, .int .u8 0, .int .u8 0, .int .u8 0, .int .u8 0, .int .u8 0, .int .u8 0, .int .u8 0, .int .u8 0, .int .u8 0, .int .u8 0, .int .u8 0, .int .u8 0, .int .u8 0]) := lib_hid (Blk.new w9 _ _)
      have HB9 := lib_hid (HB8.out.grows hg9)
      have HO9 := lib_hid (own_grows HO8.out hg9)
      have HK9 : Hid (Keeps (fun b => b = p0) W0 w9) := lib_hid (HK8.out.trans (hg9.keeps _) (fun _ h _ => h))
      clear hg9 HB8 HB8c HO8 HK8 HE8
      go_upto_region 8 with (refine wpList_store_blk rfl _ _ _ rfl w9.heap.size ec rfl rfl 23 _ HBz.out (by rw [Try.size16, hec]) (by rw [hec]; rfl) HEa.out w9.heap.size w9 ((Below.refl _ w9).alloc (Nat.le_refl _) _) (Nat.le_refl _) ?_; intro w10 hB10 hb10 hg10)
      obtain ⟨p10, Hp10⟩ : ∃ p10, Hid (w9.heap.size = p10) := ⟨_, lib_hid rfl⟩
      rw [Hp10.out] at hB10 ⊢
      have HSe : Hid (SB w10 (some ⟨p10, 0, none⟩) 16 16 e1) := by
        rw [← Hec.out] at hB10
        have := hB10.row (o := 0) (n := 16) (c := 16) (by omega) (by simp [e1l.out]) (by unfold maxLen; omega)
        rw [List.drop_zero, List.take_of_length_le (by simp [e1l.out])] at this
        exact lib_hid this
      have HB10 := lib_hid (HB9.out.grows (show Grows w9 w10 from hb10))
      have HO10 := lib_hid (own_grows HO9.out (show Grows w9 w10 from hb10))
      have HK10 : Hid (Keeps (fun b => b = p0) W0 w10) := lib_hid (HK9.out.trans ((show Grows w9 w10 from hb10).keeps _) (fun _ h _ => h))
      have hle10 : W0.heap.size ≤ w10.heap.size := HK10.out.size
      clear hB10 hb10 hg10 HBz HB9 HO9 HK9 HEa
      go_wp2_with (at_builtin; refine wpList_append2 rfl _ _ 26 rfl W0.heap.size 5 (.int .u8 0) 1 Try.underlying26 Try.infoByte rfl C e (16 * i) _ rfl HO10.out (some ⟨p10, 0, none⟩) 16 16 _ rfl HSe.out (b8_one e1) (by omega) (by omega) hle10 ?_; intro A4 c4 w4 ho4 hG4 hl4)
      have HO4 : Hid (w4.ownsRow W0.heap.size 5 1 (.slice A4 (16 * (i + 1)) c4) (16 * (i + 1)) ((oB E f n (i + 1)).map b8)) := by
        unfold Hid
        rw [HOb.out, List.map_append]
        exact ho4
      have HB4 : Hid (Blk w4 p0 23 ((fB f n (i + 1)).map b8).toArray) := by
        rw [HF1.out]
        exact lib_hid (HB10.out.grown hG4 (fun e => by have := (own_lt HO10.out p0 e.symm).1; have := hsz0.out; omega))
      have HK4 : Hid (Keeps (fun b => b = p0) W0 w4) := lib_hid (HK10.out.trans (keeps_grown hG4) (fun j e hj => by have := (own_lt HO10.out j e).1; omega))
      clear ho4 hG4 hl4 HO10 HSe HK10 HB10 hle10
      go_roundw
      case rel => exact ⟨i + 1, A4, c4, by omega, by go_num, rfl, HK4, HB4, HO4⟩
      case measure => simp [intOf]; omega
    · have hki : ¬ (i : Int) < (cnt : Int) := by omega
      obtain rfl : i = cnt := by omega
      have HS := lib_hid (SB.own HO.out)
      have hcap := HS.out.cap
      have hsl := fun W => run_sl_hA (P := Try.prog) Try.underlying26 Try.sizeByte C (16 * i) e many (many : Int) rfl (by omega) W
      have HR : Hid (SB wr C many e (strmF E f many)) := by
        have := sb_head HS.out hcm
        unfold Hid strmF
        rw [Hcnt.out, Hn.out]
        exact this
      have HGf : Hid (Grows w wr) := lib_hid (Below.trans HG0.out (Hk.out.below HG0.out.size (fun i hi => by have := Hp0.out; omega)))
      clear HS HO HB Hk hcap hn hcnt hE HEn
      go_wp2
      go_ret
      exact ⟨C, e, rfl, HGf.out, HR.out⟩
end Go.Proofs.Ythcmdjaccjghjaa
