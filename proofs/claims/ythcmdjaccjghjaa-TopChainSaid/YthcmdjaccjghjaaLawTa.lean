/-
  The walk of TopChain.
-/
import Derived.Test.YthcmdjaccjghjaaTop3
import Derived.Deep.Cut
import Derived.Deep.RegionHeldLaw
namespace Go.Proofs.Ythcmdjaccjghjaa
open Go Go.RowKit
set_option linter.unusedSimpArgs false
set_option linter.unusedVariables false


theorem range_getD (y : List UInt8) (o n : Nat) (h : o + n ≤ y.length) : (List.range n).map (fun j => y.getD (o + j) 0) = (y.drop o).take n := by
  apply List.ext_getElem
  · simp; omega
  · intro i h1 h2
    simp only [List.length_map, List.length_range] at h1
    rw [List.getElem_map, List.getElem_range, List.getElem_take, List.getElem_drop, List.getD_eq_getElem?_getD, List.getElem?_eq_getElem (by omega)]
    rfl
set_option maxRecDepth 100000 in
set_option maxHeartbeats 4000000 in
theorem walk_TopChain (K : List UInt8) (L : Bool) (IV : List UInt8) (A : Option Addr) (n c : Nat) (a : List UInt8) (B : Option Addr) (m d : Nat) (b : List UInt8) (w : World) (hK : K.length = 32) (hI : IV.length = 16) (hs : SB w A n c a) (hb : SB w B m d b) :
    Calls Try.prog 3 #[.agg (keyV K L IV), .slice A n c, .slice B m d] w fun e w' => e = .returned (.bool true) ∧ Grows w w' := by
  obtain ⟨cs, Hcs, hcs⟩ : ∃ cs, Hid (keyV K L IV = cs) ∧ Hid (cs.size = 49) := ⟨_, lib_hid rfl, lib_hid (by simp [keyV, hK, hI])⟩
  obtain ⟨kl, hkb, hex⟩ := keyBytes_top K IV L hK hI
  have HKB := lib_hid hkb
  have HEX := lib_hid hex
  have hal := lib_hid hs.len
  have hbl := lib_hid hb.len
  have hcm := hs.max
  have hdm := hb.max
  have hnc := hs.cap
  have hmd := hb.cap
  have HSa := lib_hid hs
  have HSb := lib_hid hb
  have hnr := keyN_le L
  rw [Hcs.out]
  rw [Hcs.out] at HKB
  clear hkb hex hs hb
  by_cases h1 : 96 < n
  · have h1i : (96 : Int) < (n : Int) := by omega
    clear HKB HEX HSa HSb hcm hdm hnc hmd h1
    go_enter Try.func3, Try.ntmps3
    go_wp2
    go_ret
    exact ⟨rfl, (Grows.refl _).alloc _⟩
  have h1i : ¬ (96 : Int) < (n : Int) := by omega
  obtain ⟨r, hr, hrr⟩ : ∃ r : Nat, Hid (n % 16 = r) ∧ (n : Int).tmod 16 = (r : Int) := ⟨n % 16, lib_hid rfl, by rw [Int.tmod_eq_emod_of_nonneg (by omega)]; omega⟩
  by_cases h2 : r = 0
  case neg =>
    have h2i : ¬ (r : Int) = 0 := by omega
    clear HKB HEX HSa HSb hcm hdm hnc hmd
    go_enter Try.func3, Try.ntmps3
    go_wp2
    go_ret
    exact ⟨rfl, (Grows.refl _).alloc _⟩
  have h2i : (r : Int) = 0 := by omega
  rw [h2i] at hrr
  by_cases h3 : n = 0
  · subst h3
    have hrz : (0 : Int).tmod 16 = 0 := by decide
    clear HKB HEX HSa HSb hcm hdm hnc hmd hrr
    go_enter Try.func3, Try.ntmps3
    go_wp2
    go_ret
    exact ⟨rfl, (Grows.refl _).alloc _⟩
  have h3i : ¬ (n : Int) = 0 := by omega
  by_cases h4 : 100 < m
  · have h4i : (100 : Int) < (m : Int) := by omega
    clear HKB HEX HSa HSb hcm hdm hnc hmd h4
    go_enter Try.func3, Try.ntmps3
    go_wp2
    go_ret
    exact ⟨rfl, (Grows.refl _).alloc _⟩
  have h4i : ¬ (100 : Int) < (m : Int) := by omega
  obtain ⟨mm, Hmm⟩ : ∃ mm, Hid (16 * (mm + 1) = n) := ⟨n / 16 - 1, lib_hid (by have := hr.out; omega)⟩
  obtain ⟨p0, Hp0⟩ : ∃ p0, Hid (w.heap.size = p0) := ⟨_, lib_hid rfl⟩
  obtain ⟨W0, HW0⟩ : ∃ W0, Hid (w.alloc (.cells cs 25) = W0) := ⟨_, lib_hid rfl⟩
  have HB0 : Hid (Blk W0 p0 25 cs) := by unfold Hid; rw [← HW0.out, ← Hp0.out]; exact Blk.new w _ _
  have HG0 : Hid (Grows w W0) := by unfold Hid; rw [← HW0.out]; exact (Grows.refl w).alloc _
  go_enter Try.func3, Try.ntmps3
  go_upto_region 3 with fail
  rw [HW0.out, Hp0.out]
  clear h1i hrr h2i h2 h3i h4i HW0
  go_wp2_with (refine wpList_load_blk rfl _ _ rfl p0 rfl 25 cs _ HB0.out Try.underlying25 rfl (by rw [Try.sizeKey, hcs.out]) ?_)
  refine (HKB.out W0).mono ?_
  rintro e w1 ⟨g0, rfl, hg1, hs1⟩
  have HG1 := lib_hid (HG0.out.trans hg1)
  have HB1 := lib_hid (HB0.out.grows hg1)
  have HS1 := lib_hid hs1
  clear hg1 hs1 HB0
  go_wp2_with fail
  refine (HEX.out w1 g0 HS1.out).mono ?_
  rintro e w2 ⟨g, rfl, hg2, hgg, hk2⟩
  obtain ⟨ws, Hws⟩ : ∃ ws, Hid (keyW K L = ws) := ⟨_, lib_hid rfl⟩
  obtain ⟨nr, Hnr, hnr1, hnr2⟩ : ∃ nr, Hid (keyN L = nr) ∧ 1 ≤ nr ∧ nr ≤ 14 := ⟨_, lib_hid rfl, hnr.1, hnr.2⟩
  rw [Hws.out, Hnr.out] at hk2
  have HG2 := lib_hid (HG1.out.trans hg2)
  have HB2 := lib_hid (HB1.out.grows hg2)
  obtain ⟨E, HE, hE⟩ : ∃ E : List UInt8 → List UInt8, Hid (encF tabF ws nr = E) ∧ Hid (∀ xs, (E xs).length = 16) := ⟨_, lib_hid rfl, lib_hid (fun xs => encF_len _ _ _ xs)⟩
  have HSe : Hid (∀ (iv bs : List UInt8) (X : Option Addr) (l e : Nat) (W : World), Grows w2 W → iv.length = 16 → SB W X l e bs → l ≤ 1000 → Calls Try.prog 8 #[.pointer (some ⟨g, 0, none⟩), .agg (iv.map b8).toArray, .slice X l e] W (NewB 5 W (cbcF E iv bs))) := fun iv bs X l e W hW hiv h hl => by
    have := cbcSeal_any w2.heap.size g nr tabF ws iv bs X l e W (hk2.below hW) hnr1 hnr2 hiv h hl
    rw [HE.out] at this
    exact this
  have HIV : Hid (∀ W', Grows w2 W' → SB W' (some ⟨p0, 33, none⟩) 16 16 IV) := fun W' hW' => key_iv hK hI (by rw [Hcs.out]; exact HB2.out.grows hW')
  have HR2 : Hid (Row w2 (some ⟨p0, 33, none⟩) 16 16 (IV.map b8)) := HIV.out w2 (Grows.refl _)
  clear hg2 hgg hk2 HS1 HB1 HEX HKB
  go_wp2_with (refine wpList_load_part rfl _ _ rfl ⟨p0, 33, none⟩ rfl 16 16 _ _ HR2.out Try.underlying23 rfl Try.size16 ?_)
  refine (HSe.out IV a A n c w2 (Grows.refl _) hI (HSa.out.grows HG2.out) (by omega)).mono ?_
  rintro e w3 ⟨X, nx, cx, hnx, rfl, hg3, ho3⟩
  have HX3 := lib_hid (SB.own ho3)
  have HG3 := lib_hid hg3
  obtain ⟨x, Hx⟩ : ∃ x, Hid (cbcF E IV a = x) := ⟨_, lib_hid rfl⟩
  rw [Hx.out] at hnx HX3
  have hnx2 : nx = n + 16 := by
    rw [hnx.out, ← Hx.out, cbcF_len hE.out IV a hI, hal.out]; have := Hmm.out; omega
  subst hnx2
  clear hnx ho3 hg3 HR2 HB2
  go_upto_region 7 with fail
  have hS3 := sb_range (HIV.out w3 HG3.out)
  have hu16 : Try.prog.underlying 23 = some (.array 16 5) := by kernel_rfl
  have hi16 : (Try.prog.info? 23).map (·.size) = some (IV.map b8).length := by rw [Try.size16, List.length_map, hI]
  have hgd : Grows w3 (w3.drew.alloc (.cells #[] 5)) := (Grows.refl w3).drew.alloc _
  have HO1 : Hid (OwnAt (w3.drew.alloc (.cells #[] 5)) w3.heap.size (some ⟨w3.heap.size, 0, none⟩) 0 0 []) := OwnAt.of_own (World.ownsRow_lit (base := w3.heap.size) (e := 5) (size := 1) w3.drew #[] 0 (Nat.le_refl _) (by unfold maxLen; omega) rfl)
  have HA1 := lib_hid (HSa.out.grows (HG2.out.trans (HG3.out.trans hgd)))
  have HGd := lib_hid hgd
  have hle1 : w3.heap.size ≤ (w3.drew.alloc (.cells #[] 5)).heap.size := hgd.size
  have hS4 := sb_range (HIV.out _ (HG3.out.trans hgd))
  have hS3d := sb_range (HIV.out _ (HG3.out.drew))
  clear hgd
  go_region_held_law (fun W => W.rangeAt p0 33 (IV.map b8)) (first | assumption | go_keep)
    (first
      | (refine step_append_atT rfl (.tmp 48) (.tmp 49) 26 26 rfl w3.heap.size 5 (.int .u8 0) 1 Try.underlying26 Try.infoByte rfl (some ⟨w3.heap.size, 0, none⟩) 0 0 [] rfl HO1.out (.slice A n c) rfl n _ (Row.src HA1.out Try.underlying26 (b8_one a)) (by omega) (by omega) hle1 ?_; intro A5 c5 w5 hO5 hG5 hl5; rw [Nat.zero_add, List.nil_append] at hO5; try rw [Nat.zero_add]; have HO5 := lib_hid hO5; have HG5 : Hid (Grows w3 w5) := HGd.out.grown hG5 (fun k hk => by cases hk; exact Nat.le_refl _); have hS5 := sb_range (HIV.out _ (HG3.out.trans HG5.out)); have HB5 := lib_hid (HSb.out.grows (HG2.out.trans (HG3.out.trans HG5.out))); have hle5 := HG5.out.size; clear hO5 hG5 hl5)
      | (refine step_append_atT rfl (.tmp 50) (.tmp 51) 26 26 rfl w3.heap.size 5 (.int .u8 0) 1 Try.underlying26 Try.infoByte rfl A5 n c5 _ rfl HO5.out (.slice B m d) rfl m _ (Row.src HB5.out Try.underlying26 (b8_one b)) (by omega) (by omega) hle5 ?_; intro A6 c6 w6 hO6 hG6 hl6; have HS6 : Hid (SB w6 A6 (n + m) c6 (a ++ b)) := (by have h := hO6.row; rw [← List.map_append] at h; exact h); have HG6 : Hid (Grows w3 w6) := HG5.out.grown hG6 (fun k hk => by obtain ⟨q2, hq2, hqb⟩ := Option.map_eq_some_iff.1 hk; have := HO5.out.base_le q2 hq2; omega); have hS6 := sb_range (HIV.out _ (HG3.out.trans HG6.out)); clear hO6 hG6 hl6)
      | (go_at_call 8; refine (HSe.out IV (a ++ b) A6 (n + m) c6 w6 (HG3.out.trans HG6.out) hI HS6.out (by omega)).mono ?_; rintro e w7 ⟨Y, ny, cy, hny, rfl, hg7, ho7⟩; have HY7 := lib_hid (SB.own ho7); have HG7 := lib_hid (HG6.out.trans hg7); have hS7 := sb_range (HIV.out _ (HG3.out.trans HG7.out)); clear ho7 hg7))
  obtain ⟨y, Hy⟩ : ∃ y, Hid (cbcF E IV (a ++ b) = y) := ⟨_, lib_hid rfl⟩
  obtain ⟨pp, Hpp, hppl⟩ : ∃ pp : List UInt8, Hid ((chL E IV a (mm + 1)).1 = pp) ∧ Hid (pp.length = n) := ⟨_, lib_hid rfl, lib_hid (by rw [(chL_len hE.out IV a hI _).1]; exact Hmm.out)⟩
  obtain ⟨last, Hlast, lastl⟩ : ∃ last : List UInt8, Hid ((chL E IV a (mm + 1)).2 = last) ∧ Hid (last.length = 16) := ⟨_, lib_hid rfl, lib_hid (chL_len hE.out IV a hI _).2⟩
  obtain ⟨z, Hz⟩ : ∃ z, Hid (cbcF E last b = z) := ⟨_, lib_hid rfl⟩
  have hxP : x.take n = pp := by
    have := cbcF_head E hE.out IV a hI (mm + 1) (by rw [hal.out]; exact Hmm.out.symm)
    rw [Hmm.out, Hx.out, Hpp.out] at this
    exact this
  have hyP : y = pp ++ z := by
    have := cbcF_split E IV a b (mm + 1) (by rw [hal.out]; exact Hmm.out.symm)
    rw [Hy.out, Hpp.out, Hlast.out, Hz.out] at this
    exact this
  have hyL : (y.drop (16 * mm)).take 16 = last := by
    have := chL_last hE.out IV a z hI mm
    rw [Hpp.out, Hlast.out, ← hyP] at this
    exact this
  have hzl : 16 ≤ z.length := by rw [← Hz.out, cbcF_len hE.out last b lastl.out]; omega
  have hnyl : ny = n + z.length := by rw [hny.out, Hy.out, hyP, List.length_append, hppl.out]
  rw [Hy.out] at HY7
  obtain ⟨zl, Hzl, hzl2⟩ : ∃ zl, Hid (z.length = zl) ∧ 16 ≤ zl := ⟨_, lib_hid rfl, hzl⟩
  rw [Hzl.out] at hnyl
  have HyP := lib_hid hyP
  have HyL := lib_hid hyL
  obtain ⟨xb, xo, rfl, hxb, _⟩ := HX3.out.2.2.2.2 (by omega)
  obtain ⟨yb, yo, rfl, hyb, _⟩ := HY7.out.2.2.2.2 (by omega)
  have HX1 : Hid (SB w7 (some ⟨xb, xo, none⟩) n cx pp) := by
    have := sb_partC (HX3.out.grows HG7.out) rfl 0 n cx (by have := HX3.out.cap; omega) HX3.out.max (by omega)
    rw [List.drop_zero, hxP] at this
    exact lib_hid this
  have HY1 : Hid (SB w7 (some ⟨yb, yo, none⟩) n cy pp) := by
    have := sb_partC HY7.out rfl 0 n cy (by have := HY7.out.cap; omega) HY7.out.max (by omega)
    rw [List.drop_zero, hyP, List.take_left' hppl.out] at this
    exact lib_hid this
  have HZ7 : Hid (SB w7 (some ⟨yb, yo + n, none⟩) zl (cy - n) z) := by
    have hcap := HY7.out.cap
    have := sb_partC HY7.out rfl n zl (cy - n) (by omega) (by have := HY7.out.max; omega) (by omega)
    rw [hyP, List.drop_left' hppl.out, List.take_of_length_le (by rw [Hzl.out]; exact Nat.le_refl _)] at this
    exact lib_hid this
  have hcx := HX3.out.cap
  have hcy := HY7.out.cap
  have Hsx : Hid (∀ W, (Instr.slice 26 (.slice (some ⟨xb, xo, none⟩) (n + 16) cx) none (some (.int .i64 (n : Int))) none).run Try.prog W = .ok (.slice (some ⟨xb, xo, none⟩) n cx) W) := lib_hid (fun W => run_sl_hT Try.underlying26 Try.sizeByte xb xo (n + 16) cx n _ rfl (by omega) W)
  have Hsy : Hid (∀ W, (Instr.slice 26 (.slice (some ⟨yb, yo, none⟩) ny cy) none (some (.int .i64 (n : Int))) none).run Try.prog W = .ok (.slice (some ⟨yb, yo, none⟩) n cy) W) := lib_hid (fun W => run_sl_hT Try.underlying26 Try.sizeByte yb yo ny cy n _ rfl (by omega) W)
  have Hsz : Hid (∀ W, (Instr.slice 26 (.slice (some ⟨yb, yo, none⟩) ny cy) (some (.int .i64 (n : Int))) none none).run Try.prog W = .ok (.slice (some ⟨yb, yo + n, none⟩) zl (cy - n)) W) := lib_hid (fun W => by
    have := run_sl_lE (P := Try.prog) Try.underlying26 Try.sizeByte yb yo ny cy n (n : Int) rfl (by omega) (by omega) W
    rw [show ny - n = zl by omega] at this
    exact this)
  have hnn : ¬ (ny : Int) < (n : Int) + 16 := by omega
  have HG27 := lib_hid (HG3.out.trans HG7.out)
  clear hxP hyP hyL hzl hS3 hS3d hS4 hS5 hS6 hS7 hu16 hi16 HO1 HA1 HGd hle1 HO5 HB5 hle5 HG5 HS6 HG6 hcx hny hnr hxb hyb HIV
  go_wp2
  apply wp_region_mono 27 ((.is _, []) :: (.is _, []) :: (.is _, []) :: (.is _, []) :: (.is _, []) :: (.is (.bool false), []) :: (.is _, []) :: (.is _, []) :: (.is _, []) :: (.is _, []) :: (.is _, []) :: (.is _, []) :: (.is (.bool false), []) :: (.is _, []) :: (.is _, []) :: (.is _, []) :: (.is _, []) :: (.is _, []) :: (.is _, []) :: (.is _, []) :: (.is _, []) :: (.is _, []) :: (.is _, []) :: (.is _, []) :: (.is _, []) :: (.is (.bool false), []) :: (.is _, []) :: []) (by kernel_rfl) (by kernel_rfl)
  iterate 5
    apply Mono.is0
    · kernel_rfl
    · intro W hW
      go_wp2
      refine ⟨rfl, rfl, Grows.refl _, ?_⟩
      unfold Oper.valAt
      go_simp
      rfl
    intro k1 a1 hk1 ha1
    simp only [Nat.reduceAdd] at hk1
    simp only [Act.put, List.setIfInBounds_toArray, List.set_cons_succ, List.set_cons_zero] at ha1
    subst hk1 ha1
  apply Mono.is0
  · kernel_rfl
  · intro W hW 
    go_wp2
    refine ⟨rfl, rfl, Grows.refl _, ?_⟩
    unfold Oper.valAt
    go_simp
  intro k1 a1 hk1 ha1
  simp only [Nat.reduceAdd] at hk1
  simp only [Act.put, List.setIfInBounds_toArray, List.set_cons_succ, List.set_cons_zero] at ha1
  subst hk1 ha1
  iterate 6
    apply Mono.is0
    · kernel_rfl
    · intro W hW
      go_wp2
      refine ⟨rfl, rfl, Grows.refl _, ?_⟩
      unfold Oper.valAt
      go_simp
      rfl
    intro k1 a1 hk1 ha1
    simp only [Nat.reduceAdd] at hk1
    simp only [Act.put, List.setIfInBounds_toArray, List.set_cons_succ, List.set_cons_zero] at ha1
    subst hk1 ha1
  apply Mono.is0
  · kernel_rfl
  · intro W hW 
    go_wp2
    refine ⟨rfl, rfl, Grows.refl _, ?_⟩
    unfold Oper.valAt
    go_simp
    try omega
  intro k1 a1 hk1 ha1
  simp only [Nat.reduceAdd] at hk1
  simp only [Act.put, List.setIfInBounds_toArray, List.set_cons_succ, List.set_cons_zero] at ha1
  subst hk1 ha1
  iterate 5
    apply Mono.is0
    · kernel_rfl
    · intro W hW
      go_wp2
      refine ⟨rfl, rfl, Grows.refl _, ?_⟩
      unfold Oper.valAt
      go_simp
      rfl
    intro k1 a1 hk1 ha1
    simp only [Nat.reduceAdd] at hk1
    simp only [Act.put, List.setIfInBounds_toArray, List.set_cons_succ, List.set_cons_zero] at ha1
    subst hk1 ha1
  apply Mono.is0
  · kernel_rfl
  · intro W hW
    have s1 := Hsx.out W
    go_wp2
    refine ⟨rfl, rfl, Grows.refl _, ?_⟩
    unfold Oper.valAt
    go_simp
    rfl
  intro k1 a1 hk1 ha1
  simp only [Nat.reduceAdd] at hk1
  simp only [Act.put, List.setIfInBounds_toArray, List.set_cons_succ, List.set_cons_zero] at ha1
  subst hk1 ha1
  apply Mono.is0
  · kernel_rfl
  · intro W hW
    have cv := run_string_SB (P := Try.prog) Try.underlying26 Try.underlying5 Try.underlying9 (HX1.out.grows hW)
    go_wp2
    refine ⟨rfl, rfl, Grows.refl _, ?_⟩
    unfold Oper.valAt
    go_simp
    rfl
  intro k1 a1 hk1 ha1
  simp only [Nat.reduceAdd] at hk1
  simp only [Act.put, List.setIfInBounds_toArray, List.set_cons_succ, List.set_cons_zero] at ha1
  subst hk1 ha1
  iterate 3
    apply Mono.is0
    · kernel_rfl
    · intro W hW
      go_wp2
      refine ⟨rfl, rfl, Grows.refl _, ?_⟩
      unfold Oper.valAt
      go_simp
      rfl
    intro k1 a1 hk1 ha1
    simp only [Nat.reduceAdd] at hk1
    simp only [Act.put, List.setIfInBounds_toArray, List.set_cons_succ, List.set_cons_zero] at ha1
    subst hk1 ha1
  apply Mono.is0
  · kernel_rfl
  · intro W hW
    have s2 := Hsy.out W
    go_wp2
    refine ⟨rfl, rfl, Grows.refl _, ?_⟩
    unfold Oper.valAt
    go_simp
    rfl
  intro k1 a1 hk1 ha1
  simp only [Nat.reduceAdd] at hk1
  simp only [Act.put, List.setIfInBounds_toArray, List.set_cons_succ, List.set_cons_zero] at ha1
  subst hk1 ha1
  apply Mono.is0
  · kernel_rfl
  · intro W hW
    have cv := run_string_SB (P := Try.prog) Try.underlying26 Try.underlying5 Try.underlying9 (HY1.out.grows hW)
    go_wp2
    refine ⟨rfl, rfl, Grows.refl _, ?_⟩
    unfold Oper.valAt
    go_simp
    rfl
  intro k1 a1 hk1 ha1
  simp only [Nat.reduceAdd] at hk1
  simp only [Act.put, List.setIfInBounds_toArray, List.set_cons_succ, List.set_cons_zero] at ha1
  subst hk1 ha1
  apply Mono.is0
  · kernel_rfl
  · intro W hW 
    go_wp2
    refine ⟨rfl, rfl, Grows.refl _, ?_⟩
    unfold Oper.valAt
    go_simp
  intro k1 a1 hk1 ha1
  simp only [Nat.reduceAdd] at hk1
  simp only [Act.put, List.setIfInBounds_toArray, List.set_cons_succ, List.set_cons_zero] at ha1
  subst hk1 ha1
  apply Mono.is0
  · kernel_rfl
  · intro W hW
    go_wp2
    refine ⟨rfl, rfl, Grows.refl _, ?_⟩
    unfold Oper.valAt
    go_simp
    rfl
  intro k1 a1 hk1 ha1
  simp only [Nat.reduceAdd] at hk1
  simp only [Act.put, List.setIfInBounds_toArray, List.set_cons_succ, List.set_cons_zero] at ha1
  subst hk1 ha1
  refine Mono.done ?_
  intro wm hgm
  simp only [allF, List.drop_succ_cons, List.drop_nil]
  have hgm7 := HG7.out.trans hgm
  have HGm := lib_hid (HG3.out.trans hgm7)
  have HY8 := lib_hid (HY7.out.grows hgm)
  have HZ8 := lib_hid (HZ7.out.grows hgm)
  clear hgm hgm7 HX1 HY1 HX3 HY7 HZ7 Hsx Hsy hnn HG27 HG7 HG3
  go_upto_region 11 with fail
  obtain ⟨W8, HW8⟩ : ∃ W8, Hid (wm.alloc (.cells #[.int .u8 0, .int .u8 0, .int .u8 0, .int .u8 0, .int .u8 0, .int .u8 0, .int .u8 0, .int .u8 0, .int .u8 0, .int .u8 0, .int .u8 0, .int .u8 0, .int .u8 0, .int .u8 0, .int .u8 0, .int .u8 0] 23) = W8) := ⟨_, lib_hid rfl⟩
  obtain ⟨ql, Hql⟩ : ∃ ql, Hid (wm.heap.size = ql) := ⟨_, lib_hid rfl⟩
  have HBz : Hid (Blk W8 ql 23 ((List.replicate 16 (0 : UInt8)).map b8).toArray) := by
    unfold Hid; rw [← HW8.out, ← Hql.out]; exact Blk.new wm _ _
  have HGz : Hid (Grows wm W8) := by unfold Hid; rw [← HW8.out]; exact (Grows.refl wm).alloc _
  rw [HW8.out, Hql.out]
  have HY9 := lib_hid (HY8.out.grows HGz.out)
  have HZ9 := lib_hid (HZ8.out.grows HGz.out)
  have HG28 := lib_hid (HGm.out.trans HGz.out)
  have Hyq : Hid (yb < ql) := lib_hid (by rw [← Hql.out]; exact HY8.out.lt (by omega) yb rfl)
  have HqW : Hid (w2.heap.size ≤ ql) := lib_hid (by rw [← Hql.out]; exact HGm.out.size)
  clear HW8 HY8 HZ8 HGm
  have hny16 : n ≤ ny := by omega
  have hn16 : Hid (16 * mm + 16 = n) := lib_hid (by have := Hmm.out; omega)
  go_wp2
  go_loopw [12] (fun i wr => ∃ k : Nat, k ≤ 16 ∧ i = .int .i64 (k : Int) ∧ Hid (Keeps (fun j => j = ql) W8 wr) ∧ Hid (Blk wr ql 23 (altRow 16 (fun j => y.getD (16 * mm + j) 0) (fun j => (List.replicate 16 (0 : UInt8)).getD j 0) k))) (fun i _ => 16 - (intOf i).toNat)
  case atStart => exact ⟨0, Nat.zero_le _, rfl, lib_hid (Keeps.refl _ _), lib_hid (by have := altRow_zero (List.replicate 16 (0 : UInt8)) (fun j => y.getD (16 * mm + j) 0); rw [List.length_replicate] at this; rw [this]; exact HBz.out)⟩
  case round =>
    obtain ⟨k, hk, rfl, Hk, HB⟩ := hrel
    by_cases hlt : k < 16
    · have hki : (k : Int) < 16 := by omega
      obtain ⟨v, Hv⟩ : ∃ v, Hid (y.getD (16 * mm + k) 0 = v) := ⟨_, lib_hid rfl⟩
      obtain ⟨j, Hj⟩ : ∃ j, Hid (16 * mm + k = j) := ⟨_, lib_hid rfl⟩
      have hb0 : 0 ≤ (n : Int) - 16 + (k : Int) := by have := hn16.out; omega
      have hb1 : (n : Int) - 16 + (k : Int) < (ny : Int) := by omega
      have htn : ((n : Int) - 16 + (k : Int)).toNat = j := by have := hn16.out; have := Hj.out; omega
      have hcy : wr.cell? ⟨yb, yo + j, none⟩ = some (.int .u8 (v.toNat : Int)) := by
        obtain ⟨b2, o2, e, hb2, hc⟩ := (HY9.out.keeps Hk.out (fun p e => by cases e; have h2 := Hyq.out; intro h; simp only at h; omega)).2.2.2.2 (by omega)
        cases e
        have hjn : j < ny := by have := hn16.out; have := Hj.out; omega
        rw [hc j hjn, ← Hv.out, Hj.out, List.getElem?_map, List.getD_eq_getElem?_getD, List.getElem?_eq_getElem (by rw [HY9.out.len]; exact hjn)]
        rfl
      have hcl := HB.out.cell k
      have hf := HB.out.frozen k
      have hql : ql < wr.heap.size := HB.out.lt
      have hb3 := HB.out.set k (b8 ((fun j => y.getD (16 * mm + j) 0) k))
      rw [altRow_set _ _ _ _ hlt, show (fun j => y.getD (16 * mm + j) 0) k = v from Hv.out] at hb3
      rw [altRow_at _ _ _ _ hlt] at hcl
      have HB3 := lib_hid hb3
      have HK3 : Hid (Keeps (fun j => j = ql) W8 (wr.setCell ⟨ql, k, none⟩ (b8 v))) := lib_hid (Hk.out.trans (keeps_set wr ⟨ql, k, none⟩ (b8 v)) (fun _ h _ => h))
      clear hb3 HB
      go_wp2
      go_roundw
      case rel => exact ⟨k + 1, by omega, by go_num, HK3, HB3⟩
      case measure => simp [intOf]; omega
    · have hki : ¬ (k : Int) < 16 := by omega
      have hkn : Hid (k = 16) := lib_hid (by omega)
      go_wp2
      have HGr : Hid (Grows W8 wr → True) := lib_hid (fun _ => trivial)
      have hB8 : Below w2.heap.size W8 wr := Hk.out.below HG28.out.size (fun i hi => by have := HqW.out; omega)
      have HG2r : Hid (Grows w2 wr) := lib_hid (Below.trans HG28.out hB8)
      have HZ1 : Hid (SB wr (some ⟨yb, yo + n, none⟩) zl (cy - n) z) := lib_hid (HZ9.out.keeps Hk.out (fun p e => by cases e; have h2 := Hyq.out; intro h; simp only at h; omega))
      have HLs : Hid (Blk wr ql 23 (last.map b8).toArray) := by
        have := HB.out
        rw [hkn.out, altRow_all, range_getD _ _ _ (by have := hn16.out; rw [HyP.out, List.length_append, hppl.out]; omega), HyL.out] at this
        exact this
      have HSl : Hid (∀ W, Grows wr W → Calls Try.prog 8 #[.pointer (some ⟨g, 0, none⟩), .agg (last.map b8).toArray, .slice B m d] W (NewB 5 W z)) := fun W hW => by
        have := HSe.out last b B m d W (HG2r.out.trans hW) lastl.out (HSb.out.grows (HG2.out.trans (HG2r.out.trans hW))) (by omega)
        rw [Hz.out] at this
        exact this
      have HGw : Hid (Grows w wr) := lib_hid (HG2.out.trans HG2r.out)
      clear HGr hB8 HG2r HZ9 HY9 HB Hk HSe hkn hn16
      apply wp_region_mono 14 ((.is _, []) :: (.is _, []) :: (.is _, []) :: (.is _, []) :: (.is _, []) :: (.is _, []) :: (.is (.agg ((last).map b8).toArray), []) :: (.is _, []) :: (.pr (fun v W => ∃ A n c, v = .slice A n c ∧ SB W A n c z), []) :: (.is _, [8]) :: (.is _, []) :: (.is _, []) :: (.is (.bool true), []) :: (.is _, []) :: []) (by kernel_rfl) (by kernel_rfl)
      iterate 3
        apply Mono.is0
        · kernel_rfl
        · intro W hW
          go_wp2
          refine ⟨rfl, rfl, Grows.refl _, ?_⟩
          unfold Oper.valAt
          go_simp
          rfl
        intro k1 a1 hk1 ha1
        simp only [Nat.reduceAdd] at hk1
        simp only [Act.put, List.setIfInBounds_toArray, List.set_cons_succ, List.set_cons_zero] at ha1
        subst hk1 ha1
      apply Mono.is0
      · kernel_rfl
      · intro W hW
        have s3 := Hsz.out W
        go_wp2
        refine ⟨rfl, rfl, Grows.refl _, ?_⟩
        unfold Oper.valAt
        go_simp
        rfl
      intro k1 a1 hk1 ha1
      simp only [Nat.reduceAdd] at hk1
      simp only [Act.put, List.setIfInBounds_toArray, List.set_cons_succ, List.set_cons_zero] at ha1
      subst hk1 ha1
      apply Mono.is0
      · kernel_rfl
      · intro W hW
        have cv := run_string_SB (P := Try.prog) Try.underlying26 Try.underlying5 Try.underlying9 (HZ1.out.grows hW)
        go_wp2
        refine ⟨rfl, rfl, Grows.refl _, ?_⟩
        unfold Oper.valAt
        go_simp
        rfl
      intro k1 a1 hk1 ha1
      simp only [Nat.reduceAdd] at hk1
      simp only [Act.put, List.setIfInBounds_toArray, List.set_cons_succ, List.set_cons_zero] at ha1
      subst hk1 ha1
      apply Mono.is0
      · kernel_rfl
      · intro W hW
        go_wp2
        refine ⟨rfl, rfl, Grows.refl _, ?_⟩
        unfold Oper.valAt
        go_simp
        rfl
      intro k1 a1 hk1 ha1
      simp only [Nat.reduceAdd] at hk1
      simp only [Act.put, List.setIfInBounds_toArray, List.set_cons_succ, List.set_cons_zero] at ha1
      subst hk1 ha1
      apply Mono.is0
      · kernel_rfl
      · intro W hW 
        go_wp2_with (refine wpList_load_blk (by kernel_rfl) _ _ rfl (ql) rfl 23 ((last).map b8).toArray _ (HLs.out.grows hW) Try.underlying23 rfl (by rw [Try.size16]; simp [lastl.out]) ?_)
        exact ⟨rfl, rfl, Grows.refl _, rfl⟩
      intro k1 a1 hk1 ha1
      simp only [Nat.reduceAdd] at hk1
      simp only [Act.put, List.setIfInBounds_toArray, List.set_cons_succ, List.set_cons_zero] at ha1
      subst hk1 ha1
      apply Mono.is0
      · kernel_rfl
      · intro W hW
        go_wp2
        refine ⟨rfl, rfl, Grows.refl _, ?_⟩
        unfold Oper.valAt
        go_simp
        rfl
      intro k1 a1 hk1 ha1
      simp only [Nat.reduceAdd] at hk1
      simp only [Act.put, List.setIfInBounds_toArray, List.set_cons_succ, List.set_cons_zero] at ha1
      subst hk1 ha1
      apply Mono.pr0
      · kernel_rfl
      · exact fun v W W' hW ⟨A, n, c, h1, h2⟩ => ⟨A, n, c, h1, h2.grows hW⟩
      · intro W hW 
        go_wp2_with fail
        refine (HSl.out W hW).mono ?_
        rintro e w1 ⟨A1, n1, c1, hn1, rfl, hg1, ho1⟩
        have HS1 := lib_hid (SB.own ho1)
        clear ho1 hn1
        go_wp2
        exact ⟨rfl, rfl, hg1, A1, n1, c1, rfl, HS1.out⟩
      intro v8
      intro k1 a1 hk1 ha1
      simp only [Nat.reduceAdd] at hk1
      simp only [Act.put, List.setIfInBounds_toArray, List.set_cons_succ, List.set_cons_zero] at ha1
      subst hk1 ha1
      apply Mono.is1
      · kernel_rfl
      · intro W hW f0
        obtain ⟨A1, n1, c1, rfl, hs⟩ := f0
        have cv := run_string_SB (P := Try.prog) Try.underlying26 Try.underlying5 Try.underlying9 hs
        go_wp2
        refine ⟨rfl, rfl, Grows.refl _, ?_⟩
        unfold Oper.valAt
        go_simp
        rfl
      intro k1 a1 hk1 ha1
      simp only [Nat.reduceAdd] at hk1
      simp only [Act.put, List.setIfInBounds_toArray, List.set_cons_succ, List.set_cons_zero] at ha1
      subst hk1 ha1
      iterate 2
        apply Mono.is0
        · kernel_rfl
        · intro W hW
          go_wp2
          refine ⟨rfl, rfl, Grows.refl _, ?_⟩
          unfold Oper.valAt
          go_simp
          rfl
        intro k1 a1 hk1 ha1
        simp only [Nat.reduceAdd] at hk1
        simp only [Act.put, List.setIfInBounds_toArray, List.set_cons_succ, List.set_cons_zero] at ha1
        subst hk1 ha1
      apply Mono.is0
      · kernel_rfl
      · intro W hW 
        go_wp2_with fail
        refine (awakeTop_any W).mono ?_
        rintro e w1 ⟨rfl, hg1⟩
        go_wp2
        exact ⟨rfl, rfl, hg1, rfl⟩
      intro k1 a1 hk1 ha1
      simp only [Nat.reduceAdd] at hk1
      simp only [Act.put, List.setIfInBounds_toArray, List.set_cons_succ, List.set_cons_zero] at ha1
      subst hk1 ha1
      apply Mono.is0
      · kernel_rfl
      · intro W hW
        go_wp2
        refine ⟨rfl, rfl, Grows.refl _, ?_⟩
        unfold Oper.valAt
        go_simp
        rfl
      intro k1 a1 hk1 ha1
      simp only [Nat.reduceAdd] at hk1
      simp only [Act.put, List.setIfInBounds_toArray, List.set_cons_succ, List.set_cons_zero] at ha1
      subst hk1 ha1
      refine Mono.done ?_
      intro wm hgm
      simp only [allF, List.drop_succ_cons, List.drop_zero]
      intro g8
      go_wp2
      go_ret
      exact ⟨rfl, HGw.out.trans hgm⟩
end Go.Proofs.Ythcmdjaccjghjaa
