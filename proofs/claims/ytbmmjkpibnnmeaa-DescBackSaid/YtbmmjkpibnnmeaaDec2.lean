/-
  palfreyref15.Decode.
-/
import Derived.Test.YtbmmjkpibnnmeaaDec1
import Derived.Test.YtbmmjkpibnnmeaaRef1
namespace Go.Proofs.Ytbmmjkpibnnmeaa
open Go Go.RowKit
set_option linter.unusedSimpArgs false
set_option linter.unusedVariables false


theorem run_sl_lhD {P : Program} {t e : TypeId} (ht : P.underlying t = some (.slice e)) (hs : (P.info? e).map (·.size) = some 1) (bk off n c lo hi : Nat) (l h : Int) (hl : l = lo) (hh : h = hi) (h1 : lo ≤ hi) (h2 : hi ≤ c) (h3 : lo < c) (W : World) :
    Sem.run P (Instr.slice t (.slice (some ⟨bk, off, none⟩) n c) (some (.int .i64 l)) (some (.int .i64 h)) none) W = .ok (.slice (some ⟨bk, off + lo, none⟩) (hi - lo) (c - lo)) W := by
  have e2 : P.elem t = e := by simp [Program.elem, ht]
  obtain ⟨i, hi', hi1⟩ := Option.map_eq_some_iff.1 hs
  have hz : (sizeOf e).run P W = .ok 1 W := by simp [sizeOf, typeInfo, hi', hi1]
  subst hl hh
  rw [run_slice_lh (w := W) t (some ⟨bk, off, none⟩) n c (by rw [e2]; exact ht) .i64 .i64 lo hi (by omega) (by omega) (by omega), e2, hz]
  simp only [Result.andThen_ok, sliced, Int.toNat_natCast, Nat.mul_one]
  rw [if_neg (by omega)]
  simp [add_zero_spot]
theorem decL_succ (bs : List UInt8) (k : Nat) : decL bs (k + 1) = decL bs k ++ [decAt bs k] := by unfold decL; rw [List.range_succ, List.map_append]; rfl
set_option maxRecDepth 100000 in
set_option maxHeartbeats 4000000 in
theorem refDecode_any (A : Option Addr) (n c : Nat) (bs : List UInt8) (w : World) (h : SB w A n c bs) (hm : n ≤ 1000000) :
    Calls Try.prog 33 #[.slice A n c] w (NewSE 29 w (decR bs).1 (decR bs).2) := by
  have H := lib_hid h
  have Hl := lib_hid h.len
  have Hcm := lib_hid h.max
  have Hnc := lib_hid h.cap
  clear h
  go_enter Try.func33, Try.ntmps33
  by_cases h8 : n % 8 ≠ 0
  · have hb : (n : Int) % 8 ≠ 0 := by omega
    have Hd : Hid (decR bs = ([], 17)) := by unfold Hid decR; rw [Hl.out, if_pos h8]
    rw [Hd.out]
    go_wp2
    go_ret2
    exact ⟨none, 0, 0, lib_hid rfl, rfl, Grows.refl w, World.ownsRow_nil _ _ _ _⟩
  replace h8 := Decidable.not_not.1 h8
  obtain ⟨cnt, Hcnt⟩ : ∃ cnt, Hid (8 * cnt = n) := ⟨n / 8, by unfold Hid; omega⟩
  have hb1 : (n : Int) % 8 = 0 := by omega
  by_cases h9 : 64 < n
  · have h9i : (64 : Int) < (n : Int) := by omega
    have Hd : Hid (decR bs = ([], 10)) := by unfold Hid decR; have := Hcnt.out; rw [Hl.out, if_neg (by omega), if_pos (by omega)]
    rw [Hd.out]
    go_wp2
    go_ret2
    exact ⟨none, 0, 0, lib_hid rfl, rfl, Grows.refl w, World.ownsRow_nil _ _ _ _⟩
  have h9i : ¬ (64 : Int) < (n : Int) := by omega
  have Hd : Hid (decR bs = (decL bs cnt, 0)) := by unfold Hid decR; have := Hcnt.out; rw [Hl.out, if_neg (by omega), if_neg (by omega), show n / 8 = cnt by omega]
  rw [Hd.out]
  have HR : Hid (∀ (j b off : Nat) (W : World), j + 8 ≤ n → A = some ⟨b, off, none⟩ → Grows w W → SB W (some ⟨b, off + j, none⟩) 4 (c - j) ((bs.drop j).take 4) ∧ SB W (some ⟨b, off + (j + 4), none⟩) 4 (c - (j + 4)) ((bs.drop (j + 4)).take 4)) := fun j b off W hj hA hW => by
    have hs := H.out.grows hW
    have h1 := Hnc.out
    have h2 := Hcm.out
    exact ⟨sb_part hs hA j 4 (c - j) (by omega) (by omega) (by omega), sb_part hs hA (j + 4) 4 (c - (j + 4)) (by omega) (by omega) (by omega)⟩
  go_wp2
  go_loopw [4, 5] (fun v i wr => ∃ (k j : Nat) (C : Option Addr) (e : Nat), k ≤ cnt ∧ Hid (8 * k = j) ∧ j ≤ n ∧ v = .slice C k e ∧ i = .int .i64 (j : Int) ∧ Grows w wr ∧ Hid (wr.ownsRow w.heap.size 29 2 (.slice C k e) k (flat (decL bs k)))) (fun _ i _ => n - (intOf i).toNat)
  case atStart => exact ⟨0, 0, none, 0, Nat.zero_le _, lib_hid rfl, Nat.zero_le _, rfl, rfl, Grows.refl w, lib_hid (World.ownsRow_nil _ _ _ _)⟩
  case round =>
    obtain ⟨k, j, C, e, hk, Hj, hjn, rfl, rfl, hgr, HO⟩ := hrel
    by_cases hlt : j < n
    · have hji : (j : Int) < (n : Int) := by omega
      have hj8 : j + 8 ≤ n := by have := Hj.out; have := Hcnt.out; omega
      obtain ⟨b, off, rfl, hb, _⟩ := H.out.at (by omega)
      obtain ⟨x, Hx, hx⟩ : ∃ x, Hid (decV ((bs.drop j).take 4) = x) ∧ (x : Int) < 4294967296 := ⟨_, lib_hid rfl, by have := decV_lt ((bs.drop j).take 4) (by rw [List.length_take]; omega); omega⟩
      obtain ⟨y, Hy, hy⟩ : ∃ y, Hid (decV ((bs.drop (j + 4)).take 4) = y) ∧ (y : Int) < 4294967296 := ⟨_, lib_hid rfl, by have := decV_lt ((bs.drop (j + 4)).take 4) (by rw [List.length_take]; omega); omega⟩
      have HS1 : Hid (∀ W, (Instr.slice 44 (.slice (some ⟨b, off, none⟩) n c) (some (.int .i64 (j : Int))) (some (.int .i64 ((j : Int) + 4))) none).run Try.prog W = .ok (.slice (some ⟨b, off + j, none⟩) 4 (c - j)) W) := fun W => by
        have h1 := Hnc.out
        have h2 := run_sl_lhD Try.underlying44 Try.sizeByte b off n c j (j + 4) (j : Int) ((j : Int) + 4) rfl (by omega) (by omega) (by omega) (by omega) W
        rw [show j + 4 - j = 4 by omega] at h2
        exact h2
      have HS2 : Hid (∀ W, (Instr.slice 44 (.slice (some ⟨b, off, none⟩) n c) (some (.int .i64 ((j : Int) + 4))) (some (.int .i64 ((j : Int) + 8))) none).run Try.prog W = .ok (.slice (some ⟨b, off + (j + 4), none⟩) 4 (c - (j + 4))) W) := fun W => by
        have h1 := Hnc.out
        have h2 := run_sl_lhD Try.underlying44 Try.sizeByte b off n c (j + 4) (j + 8) ((j : Int) + 4) ((j : Int) + 8) (by omega) (by omega) (by omega) (by omega) (by omega) W
        rw [show j + 8 - (j + 4) = 4 by omega] at h2
        exact h2
      have HL1 : Hid (∀ W', Grows wr W' → Calls Try.prog 51 #[.slice (some ⟨b, off + j, none⟩) 4 (c - j)] W' fun e w' => e = .returned (.int .u64 (x : Int)) ∧ W' = w') := fun W' hW' => by
        have h2 := refLittle_any _ _ _ _ _ (HR.out j b off W' hj8 rfl (hgr.trans hW')).1
        rw [show (littleF ((bs.drop j).take 4)).toNat = x from Hx.out] at h2
        exact h2
      have HL2 : Hid (∀ W', Grows wr W' → Calls Try.prog 51 #[.slice (some ⟨b, off + (j + 4), none⟩) 4 (c - (j + 4))] W' fun e w' => e = .returned (.int .u64 (y : Int)) ∧ W' = w') := fun W' hW' => by
        have h2 := refLittle_any _ _ _ _ _ (HR.out j b off W' hj8 rfl (hgr.trans hW')).2
        rw [show (littleF ((bs.drop (j + 4)).take 4)).toNat = y from Hy.out] at h2
        exact h2
      have Hgr := lib_hid hgr
      clear hgr hb HR
      go_wp2
      apply wp_region_mono 18 ((.is _, []) :: (.is _, []) :: (.is _, []) :: (.is _, []) :: (.is _, []) :: (.is _, []) :: (.is (.int .u64 (x : Int)), []) :: (.is _, []) :: (.is _, []) :: (.is _, []) :: (.is _, []) :: (.is _, []) :: (.is _, []) :: (.is _, []) :: (.is (.int .u64 (y : Int)), []) :: (.is _, []) :: (.is _, []) :: (.pr (fun v W => ∃ g, v = .slice (some ⟨g, 0, none⟩) 1 1 ∧ Blk W g 29 #[iV x, iV y]), []) :: []) (by kernel_rfl) (by kernel_rfl)
      iterate 5
        apply Mono.is0
        · kernel_rfl
        · intro W hW
          go_wp2
          refine ⟨rfl, rfl, Grows.refl _, ?_⟩
          unfold Oper.valAt
          go_simp
          rfl
        intro k1 a1 hk1 ha1
        simp only [Nat.reduceAdd] at hk1
        simp only [Act.put, List.setIfInBounds_toArray, List.set_cons_succ, List.set_cons_zero] at ha1
        subst hk1 ha1
      apply Mono.is0
      · kernel_rfl
      · intro W hW
        have s1 := HS1.out W
        go_wp2
        refine ⟨rfl, rfl, Grows.refl _, ?_⟩
        unfold Oper.valAt
        go_simp
        rfl
      intro k1 a1 hk1 ha1
      simp only [Nat.reduceAdd] at hk1
      simp only [Act.put, List.setIfInBounds_toArray, List.set_cons_succ, List.set_cons_zero] at ha1
      subst hk1 ha1
      apply Mono.is0
      · kernel_rfl
      · intro W hW 
        go_wp2_with fail
        refine (HL1.out W hW).mono ?_
        rintro e w1 ⟨rfl, rfl⟩
        go_wp2
        exact ⟨rfl, rfl, Grows.refl _, rfl⟩
      intro k1 a1 hk1 ha1
      simp only [Nat.reduceAdd] at hk1
      simp only [Act.put, List.setIfInBounds_toArray, List.set_cons_succ, List.set_cons_zero] at ha1
      subst hk1 ha1
      iterate 6
        apply Mono.is0
        · kernel_rfl
        · intro W hW
          go_wp2
          refine ⟨rfl, rfl, Grows.refl _, ?_⟩
          unfold Oper.valAt
          go_simp
          rfl
        intro k1 a1 hk1 ha1
        simp only [Nat.reduceAdd] at hk1
        simp only [Act.put, List.setIfInBounds_toArray, List.set_cons_succ, List.set_cons_zero] at ha1
        subst hk1 ha1
      apply Mono.is0
      · kernel_rfl
      · intro W hW
        have s2 := HS2.out W
        go_wp2
        refine ⟨rfl, rfl, Grows.refl _, ?_⟩
        unfold Oper.valAt
        go_simp
        rfl
      intro k1 a1 hk1 ha1
      simp only [Nat.reduceAdd] at hk1
      simp only [Act.put, List.setIfInBounds_toArray, List.set_cons_succ, List.set_cons_zero] at ha1
      subst hk1 ha1
      apply Mono.is0
      · kernel_rfl
      · intro W hW 
        go_wp2_with fail
        refine (HL2.out W hW).mono ?_
        rintro e w1 ⟨rfl, rfl⟩
        go_wp2
        exact ⟨rfl, rfl, Grows.refl _, rfl⟩
      intro k1 a1 hk1 ha1
      simp only [Nat.reduceAdd] at hk1
      simp only [Act.put, List.setIfInBounds_toArray, List.set_cons_succ, List.set_cons_zero] at ha1
      subst hk1 ha1
      iterate 2
        apply Mono.is0
        · kernel_rfl
        · intro W hW
          go_wp2
          refine ⟨rfl, rfl, Grows.refl _, ?_⟩
          unfold Oper.valAt
          go_simp
          rfl
        intro k1 a1 hk1 ha1
        simp only [Nat.reduceAdd] at hk1
        simp only [Act.put, List.setIfInBounds_toArray, List.set_cons_succ, List.set_cons_zero] at ha1
        subst hk1 ha1
      apply Mono.pr0
      · kernel_rfl
      · exact fun v W W' hW ⟨g, h1, h2⟩ => ⟨g, h1, h2.grows hW⟩
      · intro W hW 
        go_wp2
        refine ⟨rfl, rfl, (Grows.refl _).alloc _, W.heap.size, ?_, Blk.new W _ _⟩
        unfold Oper.valAt
        go_simp
      intro v17
      intro k1 a1 hk1 ha1
      simp only [Nat.reduceAdd] at hk1
      simp only [Act.put, List.setIfInBounds_toArray, List.set_cons_succ, List.set_cons_zero] at ha1
      subst hk1 ha1
      refine Mono.done ?_
      intro wm hgm
      simp only [allF, List.drop_succ_cons, List.drop_zero]
      intro g17
      obtain ⟨g, rfl, hg⟩ := g17
      have HOm := lib_hid (own_grows HO.out hgm)
      have HBg := lib_hid hg
      have Hgm := lib_hid (Hgr.out.trans hgm)
      clear hgm hg HS1 HS2 HL1 HL2
      refine wpList_append_pair (by kernel_rfl) _ _ 22 rfl w.heap.size 29 (.agg #[.int .i64 0, .int .i64 0]) 16 Try.underlying22 Try.info29 rfl C k e _ rfl HOm.out g 29 x y rfl HBg.out (by have := Hj.out; omega) (by omega) Hgm.out.size ?_
      intro A4 c4 w4 ho4 hb4 hg4
      have hxy : decAt bs k = ((x : Int), (y : Int)) := by unfold decAt; rw [Hj.out, Hx.out, Hy.out]
      rw [← hxy, ← decL_succ] at ho4
      have HO4 := lib_hid ho4
      have hgr4 : Grows w w4 := Below.trans Hgm.out hb4
      clear ho4 hb4 hg4 hxy HO HOm HBg Hgm
      go_wp2
      go_roundw
      case rel => exact ⟨k + 1, j + 8, A4, c4, by have := Hj.out; have := Hcnt.out; omega, by unfold Hid; have := Hj.out; omega, by omega, rfl, by go_num, hgr4, HO4⟩
      case measure => simp [intOf]; omega
    · have hji : ¬ (j : Int) < (n : Int) := by omega
      have hkc : k = cnt := by have := Hj.out; have := Hcnt.out; omega
      subst hkc
      go_wp2
      go_ret2
      exact ⟨C, k, e, lib_hid (by unfold decL; simp), rfl, hgr, HO.out⟩
end Go.Proofs.Ytbmmjkpibnnmeaa
