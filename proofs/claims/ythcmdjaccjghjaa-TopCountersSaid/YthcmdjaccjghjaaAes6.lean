/-
  aes: Encrypt.
-/
import Derived.Test.YthcmdjaccjghjaaAes5
import Derived.Deep.Cut
namespace Go.Proofs.Ythcmdjaccjghjaa
open Go Go.RowKit
set_option linter.unusedSimpArgs false
set_option linter.unusedVariables false


/-- A block behind so many rounds. -/
def encS (T ws : List UInt8) (nr : Nat) (xs : List UInt8) : Nat → List UInt8
  | 0 => addF ws 0 xs
  | r + 1 => addF ws (r + 1) (if r + 1 < nr then mixL (shiftF (subF T (encS T ws nr xs r))) 4 else shiftF (subF T (encS T ws nr xs r)))
theorem encS_len (T ws : List UInt8) (nr : Nat) (xs : List UInt8) (r : Nat) : (encS T ws nr xs r).length = 16 := by
  cases r <;> rw [encS] <;> exact addF_len _ _ _
/-- A block, enciphered. -/
def encF (T ws : List UInt8) (nr : Nat) (xs : List UInt8) : List UInt8 := encS T ws nr xs nr
theorem encF_len (T ws : List UInt8) (nr : Nat) (xs : List UInt8) : (encF T ws nr xs).length = 16 := encS_len _ _ _ _ _
set_option maxRecDepth 100000 in
set_option maxHeartbeats 4000000 in
theorem encrypt_any (B g nr : Nat) (T ws xs : List UInt8) (w : World) (hK : KeyR w B g T ws nr) (hx : xs.length = 16) (h1 : 1 ≤ nr) (hnr : nr ≤ 14) :
    Calls Try.prog 13 #[.pointer (some ⟨g, 0, none⟩), .agg (xs.map b8).toArray] w fun e w' => e = .returned (.agg ((encF T ws nr xs).map b8).toArray) ∧ Grows w w' := by
  have hBw : B ≤ w.heap.size := by obtain ⟨_, _, _, _, _, _, h, _⟩ := hK; exact h
  obtain ⟨W0, HW0, hW0, hg0⟩ : ∃ W0 : World, Hid (W0 = (w.alloc (.cells (xs.map b8).toArray 23)).alloc (.cells #[.int .u8 0, .int .u8 0, .int .u8 0, .int .u8 0, .int .u8 0, .int .u8 0, .int .u8 0, .int .u8 0, .int .u8 0, .int .u8 0, .int .u8 0, .int .u8 0, .int .u8 0, .int .u8 0, .int .u8 0, .int .u8 0] 23)) ∧ W0.heap.size = w.heap.size + 2 ∧ Grows w W0 := ⟨_, lib_hid rfl, by simp, ((Grows.refl w).alloc _).alloc _⟩
  have HB0 : Hid (Blk W0 w.heap.size 23 (xs.map b8).toArray) := by
    unfold Hid; rw [HW0.out]; have := (Blk.new (w) 23 (xs.map b8).toArray).alloc (.cells #[.int .u8 0, .int .u8 0, .int .u8 0, .int .u8 0, .int .u8 0, .int .u8 0, .int .u8 0, .int .u8 0, .int .u8 0, .int .u8 0, .int .u8 0, .int .u8 0, .int .u8 0, .int .u8 0, .int .u8 0, .int .u8 0] 23); simpa using this
  have HB1 : Hid (Blk W0 (w.heap.size + 1) 23 #[.int .u8 0, .int .u8 0, .int .u8 0, .int .u8 0, .int .u8 0, .int .u8 0, .int .u8 0, .int .u8 0, .int .u8 0, .int .u8 0, .int .u8 0, .int .u8 0, .int .u8 0, .int .u8 0, .int .u8 0, .int .u8 0]) := by
    unfold Hid; rw [HW0.out]; have := Blk.new (w.alloc (.cells (xs.map b8).toArray 23)) 23 #[.int .u8 0, .int .u8 0, .int .u8 0, .int .u8 0, .int .u8 0, .int .u8 0, .int .u8 0, .int .u8 0, .int .u8 0, .int .u8 0, .int .u8 0, .int .u8 0, .int .u8 0, .int .u8 0, .int .u8 0, .int .u8 0]; simpa using this
  obtain ⟨p0, Hp0⟩ : ∃ p0, Hid (w.heap.size = p0) := ⟨_, lib_hid rfl⟩
  rw [Hp0.out] at HB0 HB1 hBw
  have HKey : Hid (∀ W, Keeps (fun k => k = p0) W0 W → KeyR W B g T ws nr) := fun W hW =>
    (hK.below (Below.mono hg0 (by rw [Hp0.out]; exact hBw))).below (hW.below (by have := Hp0.out; omega) (by intro i hi; omega))
  have HK00 := lib_hid (HKey.out W0 (Keeps.refl _ _))
  have hn0 : ¬ (nr : Int) = 0 := by omega
  have hnri : (nr : Int) ≤ 14 := by omega
  clear hK
  go_enter Try.func13, Try.ntmps13
  go_upto_region 1 with fail
  rw [← HW0.out, Hp0.out]
  go_wp2_with fail
  refine (rounds_any B g nr T ws W0 HK00.out hnr).mono ?_
  rintro e w1 ⟨rfl, rfl⟩
  go_wp2_with fail
  refine (add_any B g p0 0 nr T ws xs _ HK00.out HB0.out hBw hx (by omega) hnr).mono ?_
  rintro e w1 ⟨rfl, hk1, hb1⟩
  have HK1 := lib_hid hk1
  have HBa := lib_hid hb1
  clear hk1 hb1 HK00
  go_wp2
  go_loopw [6] (fun i wr => ∃ k : Nat, k ≤ nr ∧ i = .int .i64 ((k : Int) + 1) ∧ Hid (Keeps (fun k => k = p0) W0 wr) ∧ Hid (Blk wr p0 23 ((encS T ws nr xs k).map b8).toArray)) (fun i _ => nr + 1 - (intOf i).toNat)
  case atStart => exact ⟨0, Nat.zero_le _, rfl, HK1, HBa⟩
  case round =>
    obtain ⟨k, hk, rfl, HK, HB⟩ := hrel
    obtain ⟨s0, Hs0, hs0⟩ : ∃ s, Hid (encS T ws nr xs k = s) ∧ s.length = 16 := ⟨_, lib_hid rfl, encS_len _ _ _ _ _⟩
    rw [Hs0.out] at HB
    clear HK1 HBa
    by_cases hlt : k < nr
    · have hki : (k : Int) + 1 ≤ (nr : Int) := by omega
      by_cases hr : k + 1 < nr
      · have hri : (k : Int) + 1 < (nr : Int) := by omega
        go_wp2_with fail
        refine (subs_any B g p0 16 16 nr T ws s0 23 wr (HKey.out wr HK.out) HB.out (by omega) hs0 (by omega)).mono ?_
        rintro e w1 ⟨rfl, hk1, hb1⟩
        have HK1 : Hid (Keeps (fun k => k = p0) W0 w1) := lib_hid (HK.out.trans hk1 (fun _ h _ => h))
        have HB1 := lib_hid hb1
        clear hk1 hb1
        obtain ⟨s1, Hs1, hs1⟩ : ∃ s, Hid (subF T s0 = s) ∧ s.length = 16 := ⟨_, lib_hid rfl, by rw [subF_len, hs0]⟩
        rw [Hs1.out] at HB1
        have hsz1 : Hid ((Try.prog.info? 23).map (·.size) = some (s1.map b8).toArray.size) := lib_hid (by rw [Try.size16, List.size_toArray, List.length_map, hs1])
        go_wp2_with (refine wpList_load_blk rfl _ _ rfl p0 rfl 23 (s1.map b8).toArray _ HB1.out Try.underlying23 rfl hsz1.out ?_)
        refine (shift_any s1 hs1 w1).mono ?_
        rintro e w2 ⟨rfl, hg2⟩
        obtain ⟨s2, Hs2, hs2⟩ : ∃ s, Hid (shiftF s1 = s) ∧ s.length = 16 := ⟨_, lib_hid rfl, by rw [shiftF_len]⟩
        rw [Hs2.out]
        obtain ⟨res, hres⟩ : ∃ res, Hid ((s2.map b8).toArray = res) := ⟨_, lib_hid rfl⟩
        have hcl : res.size = 16 := by rw [← hres.out]; simp [hs2]
        have hca : res.all (·.oneCell') = true := by rw [← hres.out]; exact cells_all _
        rw [hres.out]
        have HB2 := lib_hid (HB1.out.grows hg2)
        have HK2 : Hid (Keeps (fun k => k = p0) W0 w2) := lib_hid (HK1.out.trans (hg2.keeps (fun k => k = p0)) (fun _ h _ => h))
        clear hg2
        go_wp2_with (refine wpList_store_blk rfl _ _ _ rfl p0 res rfl rfl 23 _ HB2.out (by rw [Try.size16, hcl]) (by simp [hcl, hs1]) hca p0 w2 (Below.refl _ _) (Nat.le_refl _) ?_; intro w3 hb3 hbb3 hg3; have HB3 : Hid (Blk w3 p0 23 (s2.map b8).toArray) := lib_hid (by rw [hres.out]; exact hb3); have HK3 : Hid (Keeps (fun k => k = p0) W0 w3) := lib_hid (HK2.out.trans (keeps_grown hg3) (fun j e _ => by cases e; rfl)); clear hb3 hbb3 hg3)
        refine (mix_any p0 s2 w3 HB3.out hs2).mono ?_
        rintro e w4 ⟨rfl, hk4, hb4⟩
        have HK4 : Hid (Keeps (fun k => k = p0) W0 w4) := lib_hid (HK3.out.trans hk4 (fun _ h _ => h))
        have HB4 := lib_hid hb4
        clear hk4 hb4
        obtain ⟨s4, Hs4, hs4⟩ : ∃ s, Hid (mixL s2 4 = s) ∧ s.length = 16 := ⟨_, lib_hid rfl, by rw [mixL_len]⟩
        rw [Hs4.out] at HB4
        go_wp2_with fail
        refine (add_any B g p0 (k + 1) nr T ws s4 w4 (HKey.out w4 HK4.out) HB4.out (by omega) hs4 (by omega) hnr).mono ?_
        rintro e w5 ⟨rfl, hk5, hb5⟩
        have HK5 : Hid (Keeps (fun k => k = p0) W0 w5) := lib_hid (HK4.out.trans hk5 (fun _ h _ => h))
        have HB5 := lib_hid hb5
        clear hk5 hb5
        have HN : Hid (encS T ws nr xs (k + 1) = addF ws (k + 1) s4) := by unfold Hid; rw [encS, Hs0.out, Hs1.out, Hs2.out, if_pos hr, Hs4.out]
        rw [← HN.out] at HB5
        go_wp2
        go_roundw
        case rel => exact ⟨k + 1, by omega, by go_num, HK5, HB5⟩
        case measure => simp [intOf]; omega
      · have hri : ¬ (k : Int) + 1 < (nr : Int) := by omega
        go_wp2_with fail
        refine (subs_any B g p0 16 16 nr T ws s0 23 wr (HKey.out wr HK.out) HB.out (by omega) hs0 (by omega)).mono ?_
        rintro e w1 ⟨rfl, hk1, hb1⟩
        have HK1 : Hid (Keeps (fun k => k = p0) W0 w1) := lib_hid (HK.out.trans hk1 (fun _ h _ => h))
        have HB1 := lib_hid hb1
        clear hk1 hb1
        obtain ⟨s1, Hs1, hs1⟩ : ∃ s, Hid (subF T s0 = s) ∧ s.length = 16 := ⟨_, lib_hid rfl, by rw [subF_len, hs0]⟩
        rw [Hs1.out] at HB1
        have hsz1 : Hid ((Try.prog.info? 23).map (·.size) = some (s1.map b8).toArray.size) := lib_hid (by rw [Try.size16, List.size_toArray, List.length_map, hs1])
        go_wp2_with (refine wpList_load_blk rfl _ _ rfl p0 rfl 23 (s1.map b8).toArray _ HB1.out Try.underlying23 rfl hsz1.out ?_)
        refine (shift_any s1 hs1 w1).mono ?_
        rintro e w2 ⟨rfl, hg2⟩
        obtain ⟨s2, Hs2, hs2⟩ : ∃ s, Hid (shiftF s1 = s) ∧ s.length = 16 := ⟨_, lib_hid rfl, by rw [shiftF_len]⟩
        rw [Hs2.out]
        obtain ⟨res, hres⟩ : ∃ res, Hid ((s2.map b8).toArray = res) := ⟨_, lib_hid rfl⟩
        have hcl : res.size = 16 := by rw [← hres.out]; simp [hs2]
        have hca : res.all (·.oneCell') = true := by rw [← hres.out]; exact cells_all _
        rw [hres.out]
        have HB2 := lib_hid (HB1.out.grows hg2)
        have HK2 : Hid (Keeps (fun k => k = p0) W0 w2) := lib_hid (HK1.out.trans (hg2.keeps (fun k => k = p0)) (fun _ h _ => h))
        clear hg2
        go_wp2_with (refine wpList_store_blk rfl _ _ _ rfl p0 res rfl rfl 23 _ HB2.out (by rw [Try.size16, hcl]) (by simp [hcl, hs1]) hca p0 w2 (Below.refl _ _) (Nat.le_refl _) ?_; intro w3 hb3 hbb3 hg3; have HB3 : Hid (Blk w3 p0 23 (s2.map b8).toArray) := lib_hid (by rw [hres.out]; exact hb3); have HK3 : Hid (Keeps (fun k => k = p0) W0 w3) := lib_hid (HK2.out.trans (keeps_grown hg3) (fun j e _ => by cases e; rfl)); clear hb3 hbb3 hg3)
        refine (add_any B g p0 (k + 1) nr T ws s2 w3 (HKey.out w3 HK3.out) HB3.out (by omega) hs2 (by omega) hnr).mono ?_
        rintro e w5 ⟨rfl, hk5, hb5⟩
        have HK5 : Hid (Keeps (fun k => k = p0) W0 w5) := lib_hid (HK3.out.trans hk5 (fun _ h _ => h))
        have HB5 := lib_hid hb5
        clear hk5 hb5
        have HN : Hid (encS T ws nr xs (k + 1) = addF ws (k + 1) s2) := by unfold Hid; rw [encS, Hs0.out, Hs1.out, Hs2.out, if_neg hr]
        rw [← HN.out] at HB5
        go_wp2
        go_roundw
        case rel => exact ⟨k + 1, by omega, by go_num, HK5, HB5⟩
        case measure => simp [intOf]; omega
    · have hki : ¬ (k : Int) + 1 ≤ (nr : Int) := by omega
      have hkn : Hid (k = nr) := lib_hid (by omega)
      obtain ⟨res, hres⟩ : ∃ res, Hid ((s0.map b8).toArray = res) := ⟨_, lib_hid rfl⟩
      have hcl : res.size = 16 := by rw [← hres.out]; simp [hs0]
      have hca : res.all (·.oneCell') = true := by rw [← hres.out]; exact cells_all _
      have HB4 : Blk wr p0 23 res := by rw [← hres.out]; exact HB.out
      have HB1' := HB1.out.keeps HK.out (by omega)
      have hb0 : Below p0 W0 wr := HK.out.below (by have := Hp0.out; omega) (by intro i hi; omega)
      go_wp2_with (first
        | (refine wpList_load_blk rfl _ _ rfl p0 rfl _ res _ HB4 Try.underlying23 rfl (by rw [Try.size16, hcl]) ?_)
        | (refine wpList_store_blk rfl _ _ _ rfl (p0 + 1) res rfl rfl _ _ HB1' (by rw [Try.size16, hcl]) (by simp [hcl]) hca p0 W0 hb0 (by omega) ?_; intro w5 HR6 hb5 hgr5))
      refine bodyPost_ret (results_cell_row rfl _ _ (p0 + 1) _ res _ _ rfl HR6 Try.underlying23 rfl (by rw [Try.size16, hcl])) rfl ?_
      exact ⟨by rw [← hres.out, ← Hs0.out, hkn.out]; rfl, Below.trans hg0 (by rw [Hp0.out]; exact hb5)⟩
end Go.Proofs.Ythcmdjaccjghjaa
