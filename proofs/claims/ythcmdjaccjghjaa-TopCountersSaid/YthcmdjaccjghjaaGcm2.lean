/-
  gcm.hash.
-/
import Derived.Test.YthcmdjaccjghjaaGcm1
import Derived.Deep.Cut
import Derived.Deep.RegionHeldLaw
namespace Go.Proofs.Ythcmdjaccjghjaa
open Go Go.RowKit
set_option linter.unusedSimpArgs false
set_option linter.unusedVariables false


theorem sumE_lenG (h0 h1 : UInt64) : ∀ (k : Nat) (a b : UInt64) (bs : List UInt8), (sumE h0 h1 k a b bs).length = 16 := by
  intro k
  induction k with
  | zero => intro a b bs; unfold sumE; exact blockF_len _ _
  | succ k ih => intro a b bs; unfold sumE; first | exact ih _ _ _ | (simp only; exact ih _ _ _)
theorem sumF_lenG (hs bs : List UInt8) : (sumF hs bs).length = 16 := by unfold sumF; exact sumE_lenG _ _ _ _ _ _
theorem bytes16 (xs : List UInt8) (h : xs.length = 16) : ∀ v ∈ xs.map b8, v.oneCell' = true := b8_one xs
def z16 : List UInt8 := List.replicate 16 0
def hashF (E : List UInt8 → List UInt8) (n m : Int) (ls : List (List UInt8)) : List UInt8 := sumF (E z16) (padL ls ++ blockF (8 * UInt64.ofInt n) (8 * UInt64.ofInt m))
set_option maxRecDepth 100000 in
set_option maxHeartbeats 4000000 in
theorem hash_any (B g nr : Nat) (TT ws : List UInt8) (n m : Int) (A : Option Addr) (k c : Nat) (ls : List (List UInt8)) (w : World) (hK : KeyR w B g TT ws nr) (h1 : 1 ≤ nr) (hnr : nr ≤ 14) (hs : RowsB w A k c ls) (hk : k ≤ 4) (hlen : ∀ i, i < k → (ls.getD i []).length ≤ 1000) :
    Calls Try.prog 38 #[.pointer (some ⟨g, 0, none⟩), .int .i64 n, .int .i64 m, .slice A k c] w fun e w' => e = .returned (.agg ((hashF (encF TT ws nr) n m ls).map b8).toArray) ∧ Grows w w' := by
  obtain ⟨E, HE, hE⟩ : ∃ E : List UInt8 → List UInt8, Hid (encF TT ws nr = E) ∧ Hid (∀ xs, (E xs).length = 16) := ⟨_, lib_hid rfl, lib_hid (fun xs => encF_len TT ws nr xs)⟩
  rw [HE.out]
  obtain ⟨ez, Hez, ezl⟩ : ∃ ez : List UInt8, Hid (E z16 = ez) ∧ Hid (ez.length = 16) := ⟨_, lib_hid rfl, lib_hid (hE.out _)⟩
  have HEb : Hid (∀ W, Below w.heap.size w W → Calls Try.prog 13 #[.pointer (some ⟨g, 0, none⟩), .agg #[.int .u8 0, .int .u8 0, .int .u8 0, .int .u8 0, .int .u8 0, .int .u8 0, .int .u8 0, .int .u8 0, .int .u8 0, .int .u8 0, .int .u8 0, .int .u8 0, .int .u8 0, .int .u8 0, .int .u8 0, .int .u8 0]] W fun e w' => e = .returned (.agg (ez.map b8).toArray) ∧ Grows W w') := fun W hW => by
    have hB : B ≤ w.heap.size := by obtain ⟨_, _, _, _, _, _, h, _⟩ := hK; exact h
    have := encrypt_any B g nr TT ws z16 W (hK.below (hW.mono hB)) rfl h1 hnr
    rw [HE.out, Hez.out] at this
    exact this
  have HLs := lib_hid hlen
  have Hll := lib_hid hs.1
  have hkc := hs.2.1
  have hcm := hs.2.2.1
  have Hat : Hid (∀ W, Grows w W → ∀ i, i < k → ∃ b off Ai ci, A = some ⟨b, off, none⟩ ∧ W.cell? ⟨b, off + i, none⟩ = some (.slice Ai (ls.getD i []).length ci) ∧ SB W Ai (ls.getD i []).length ci (ls.getD i [])) := fun W hW i hi => by
    obtain ⟨b, off, e, hb, hc⟩ := hs.2.2.2.2 (by omega)
    obtain ⟨Ai, ci, h1, h2⟩ := hc i hi
    exact ⟨b, off, Ai, ci, e, (hW.cell (p := ⟨b, off + i, none⟩) hb).trans h1, h2.grows hW⟩
  obtain ⟨p8, Hp8⟩ : ∃ p8, Hid (w.heap.size = p8) := ⟨_, lib_hid rfl⟩
  obtain ⟨W0, HW0⟩ : ∃ W0, Hid (w.alloc (.cells #[.int .u8 0, .int .u8 0, .int .u8 0, .int .u8 0, .int .u8 0, .int .u8 0, .int .u8 0, .int .u8 0, .int .u8 0, .int .u8 0, .int .u8 0, .int .u8 0, .int .u8 0, .int .u8 0, .int .u8 0, .int .u8 0] 23) = W0) := ⟨_, lib_hid rfl⟩
  have HB0 : Hid (Blk W0 p8 23 #[.int .u8 0, .int .u8 0, .int .u8 0, .int .u8 0, .int .u8 0, .int .u8 0, .int .u8 0, .int .u8 0, .int .u8 0, .int .u8 0, .int .u8 0, .int .u8 0, .int .u8 0, .int .u8 0, .int .u8 0, .int .u8 0]) := by unfold Hid; rw [← HW0.out, ← Hp8.out]; exact Blk.new w _ _
  have HG0 : Hid (Grows w W0) := by unfold Hid; rw [← HW0.out]; exact (Grows.refl w).alloc _
  have hsz0 : Hid (W0.heap.size = p8 + 1) := by unfold Hid; rw [← HW0.out, ← Hp8.out]; simp
  clear hK hs hlen
  go_enter Try.func38, Try.ntmps38
  go_upto_region 1 with fail
  rw [HW0.out, Hp8.out]
  clear HW0
  go_wp2
  go_loopw [9, 15] (fun v i wr => ∃ (j nn : Nat) (C : Option Addr) (e : Nat), j ≤ k ∧ i = .int .i64 (j : Int) ∧ v = .slice C nn e ∧ nn ≤ 1015 * j ∧ Grows W0 wr ∧ Hid (wr.ownsRow W0.heap.size 5 1 (.slice C nn e) nn ((padL (ls.take j)).map b8))) (fun _ i _ => k - (intOf i).toNat)
  case atStart => exact ⟨0, 0, none, 0, Nat.zero_le _, rfl, rfl, by omega, Grows.refl _, lib_hid (World.ownsRow_nil _ _ _ _)⟩
  case round =>
    obtain ⟨j, nn, C, e, hj, rfl, rfl, hnn, hgr, HO⟩ := hrel
    by_cases hlt : j < k
    · have hki : (j : Int) < (k : Int) := by omega
      obtain ⟨row, Hrow⟩ : ∃ row, Hid (ls.getD j [] = row) := ⟨_, lib_hid rfl⟩
      obtain ⟨b, off, Ai, ci, rfl, hcell, hsb⟩ := Hat.out wr (HG0.out.trans hgr) j hlt
      have hq := HLs.out j hlt
      rw [Hrow.out] at hcell hsb hq
      obtain ⟨q, Hq⟩ : ∃ q, Hid (row.length = q) := ⟨_, lib_hid rfl⟩
      rw [Hq.out] at hcell hsb hq
      have HS := lib_hid hsb
      have HGr := lib_hid hgr
      clear hsb
      go_wp2_with fail
      refine (padded_any Ai q ci row wr HS.out hq).mono ?_
      rintro e1 w1 ⟨A1, n1, c1, hn1, rfl, hg1, ho1⟩
      have hn1b : n1 ≤ 1015 := by rw [hn1.out, padG_len, Hq.out]; have := padF_le q; omega
      have HO1 := lib_hid (own_grows HO.out hg1)
      have HS1 := lib_hid (SB.own ho1)
      have HG1 := lib_hid (HGr.out.trans hg1)
      have hle1 : W0.heap.size ≤ w1.heap.size := HG1.out.size
      have HPj : Hid (padL (ls.take (j + 1)) = padL (ls.take j) ++ padG row) := by
        have := padL_take ls j (by rw [Hll.out]; exact hlt)
        rw [Hrow.out] at this
        exact this
      have hnnb : nn ≤ 4060 := by omega
      clear hg1 ho1 hn1 HS HO hcell hgr hq
      go_wp2_with (at_builtin; refine wpList_append2 rfl _ _ 26 rfl W0.heap.size 5 (.int .u8 0) 1 Try.underlying26 Try.infoByte rfl C e nn _ rfl HO1.out A1 n1 c1 _ rfl HS1.out (b8_one _) (by omega) (by omega) hle1 ?_; intro A4 c4 w4 ho4 hG4 hl4)
      have HO4 : Hid (w4.ownsRow W0.heap.size 5 1 (.slice A4 (nn + n1) c4) (nn + n1) ((padL (ls.take (j + 1))).map b8)) := by
        unfold Hid
        rw [HPj.out, List.map_append]
        exact ho4
      have hgr4 : Grows W0 w4 := HG1.out.grown hG4 (fun b hb => (own_lt HO1.out b hb).1)
      clear ho4 hG4 hl4 HO1 HS1 HG1 HGr hle1
      go_roundw
      case rel => exact ⟨j + 1, nn + n1, A4, c4, by omega, by go_num, rfl, by omega, hgr4, HO4⟩
      case measure => simp [intOf]; omega
    · have hki : ¬ (j : Int) < (k : Int) := by omega
      have hjn : Hid (j = k) := lib_hid (by omega)
      have HOk : Hid (wr.ownsRow W0.heap.size 5 1 (.slice C nn e) nn ((padL ls).map b8)) := by
        have := HO.out
        rw [hjn.out, List.take_of_length_le (by rw [Hll.out]; exact Nat.le_refl _)] at this
        exact this
      have HGr := lib_hid hgr
      have hnnb : nn ≤ 4060 := by omega
      clear HO hgr hnn Hat HLs
      go_wp2_with fail
      refine (lengths_any n m wr).mono ?_
      rintro e1 w1 ⟨rfl, hg1⟩
      obtain ⟨ll, Hll2, lll⟩ : ∃ ll : List UInt8, Hid (blockF (8 * UInt64.ofInt n) (8 * UInt64.ofInt m) = ll) ∧ Hid (ll.length = 16) := ⟨_, lib_hid rfl, lib_hid (blockF_len _ _)⟩
      rw [Hll2.out]
      obtain ⟨lc, Hlc, hlc⟩ : ∃ lc, Hid ((ll.map b8).toArray = lc) ∧ lc.size = 16 := ⟨_, lib_hid rfl, by simp [lll.out]⟩
      have HLa : Hid (lc.all (·.oneCell') = true) := by unfold Hid; rw [← Hlc.out]; exact cells_all _
      rw [Hlc.out]
      have HBz : Hid (Blk (w1.alloc (.cells #[.int .u8 0, .int .u8 0, .int .u8 0, .int .u8 0, .int .u8 0, .int .u8 0, .int .u8 0, .int .u8 0, .int .u8 0, .int .u8 0, .int .u8 0, .int .u8 0, .int .u8 0, .int .u8 0, .int .u8 0, .int .u8 0] 23)) w1.heap.size 23 #[.int .u8 0, .int .u8 0, .int .u8 0, .int .u8 0, .int .u8 0, .int .u8 0, .int .u8 0, .int .u8 0, .int .u8 0, .int .u8 0, .int .u8 0, .int .u8 0, .int .u8 0, .int .u8 0, .int .u8 0, .int .u8 0]) := lib_hid (Blk.new w1 _ _)
      have HG1 := lib_hid (HGr.out.trans hg1)
      have HO1 := lib_hid (own_grows HOk.out hg1)
      clear hg1 HOk HGr
      go_upto_region 8 with (refine wpList_store_blk rfl _ _ _ rfl w1.heap.size lc rfl rfl 23 _ HBz.out (by rw [Try.size16, hlc]) (by rw [hlc]; rfl) HLa.out w1.heap.size w1 ((Below.refl _ w1).alloc (Nat.le_refl _) _) (Nat.le_refl _) ?_; intro w3 hB3 hb3 hg3)
      obtain ⟨p12, Hp12⟩ : ∃ p12, Hid (w1.heap.size = p12) := ⟨_, lib_hid rfl⟩
      rw [Hp12.out] at hB3 ⊢
      have HG3 : Hid (Grows W0 w3) := lib_hid (HG1.out.trans hb3)
      have HO3 : Hid (OwnAt w3 W0.heap.size C nn e ((padL ls).map b8)) := lib_hid (OwnAt.of_own (own_grows HO1.out hb3))
      have HB3 := lib_hid (HB0.out.grows HG3.out)
      have HSl : Hid (SB w3 (some ⟨p12, 0, none⟩) 16 16 ll) := by
        rw [← Hlc.out] at hB3
        have := hB3.row (o := 0) (n := 16) (c := 16) (by omega) (by simp [lll.out]) (by unfold maxLen; omega)
        rw [List.drop_zero, List.take_of_length_le (by simp [lll.out])] at this
        exact lib_hid this
      have HSd : Hid (SB w3.drew (some ⟨p12, 0, none⟩) 16 16 ll) := lib_hid (HSl.out.grows (Grows.refl w3).drew)
      have HO3d := lib_hid (HO3.out.grows (Grows.refl w3).drew)
      have hle3 : W0.heap.size ≤ w3.heap.size := HG3.out.size
      have HCb : Hid (∀ i, blkOf C = some i → p8 < i) := lib_hid (fun i hi => by
        obtain ⟨q2, hq2, hqb⟩ := Option.map_eq_some_iff.1 hi
        have := HO3.out.base_le q2 hq2
        have := hsz0.out
        omega)
      obtain ⟨all, Hall⟩ : ∃ all, Hid (padL ls ++ ll = all) := ⟨_, lib_hid rfl⟩
      obtain ⟨ss, Hss, ssl⟩ : ∃ ss : List UInt8, Hid (sumF ez all = ss) ∧ Hid (ss.length = 16) := ⟨_, lib_hid rfl, lib_hid (sumF_lenG _ _)⟩
      have HF : Hid (hashF E n m ls = ss) := by unfold Hid hashF; rw [Hez.out, Hll2.out, Hall.out, Hss.out]
      have hz16 : (#[.int .u8 0, .int .u8 0, .int .u8 0, .int .u8 0, .int .u8 0, .int .u8 0, .int .u8 0, .int .u8 0, .int .u8 0, .int .u8 0, .int .u8 0, .int .u8 0, .int .u8 0, .int .u8 0, .int .u8 0, .int .u8 0] : Array Value).size = 16 := rfl
      have hk8 : Below w.heap.size w w3 := HG0.out.trans HG3.out
      have HEk : Hid (∀ W, Keeps (fun j => blkOf C = some j) w3 W → Calls Try.prog 13 #[.pointer (some ⟨g, 0, none⟩), .agg #[.int .u8 0, .int .u8 0, .int .u8 0, .int .u8 0, .int .u8 0, .int .u8 0, .int .u8 0, .int .u8 0, .int .u8 0, .int .u8 0, .int .u8 0, .int .u8 0, .int .u8 0, .int .u8 0, .int .u8 0, .int .u8 0]] W fun e w' => e = .returned (.agg (ez.map b8).toArray) ∧ Grows W w') := fun W hW => HEb.out W (Below.trans hk8 (hW.below hk8.size (fun i hi => by have := HCb.out i hi; have := Hp8.out; omega)))
      have HEz : Hid (∀ W, Grows w3 W → Calls Try.prog 13 #[.pointer (some ⟨g, 0, none⟩), .agg #[.int .u8 0, .int .u8 0, .int .u8 0, .int .u8 0, .int .u8 0, .int .u8 0, .int .u8 0, .int .u8 0, .int .u8 0, .int .u8 0, .int .u8 0, .int .u8 0, .int .u8 0, .int .u8 0, .int .u8 0, .int .u8 0]] W fun e w' => e = .returned (.agg (ez.map b8).toArray) ∧ Grows W w') := fun W hW => HEk.out W (hW.keeps _)
      have hS3 := blk_there HB3.out hz16
      have hS3d := blk_there HB3.out.drew hz16
      have hi16 : (Try.prog.info? 23).map (·.size) = some (ss.map b8).length := by rw [Try.size16, List.length_map, ssl.out]
      have hu16 : Try.prog.underlying 23 = some (.array 16 5) := by kernel_rfl
      have hl16 : (ss.map b8).length = 16 := by rw [List.length_map, ssl.out]
      have ho16 := b8_one ss
      clear hB3 hb3 hg3 HBz HO1 HG1 HLa Hlc Hez hE
      go_region_held_law (fun W => W.there p8 0 16) (first | assumption | (apply World.there_setCells; assumption) | go_keep)
        (first
      | (go_at_call 13; refine (HEz.out w3.drew (Grows.refl w3).drew).mono ?_; rintro e4 w4 ⟨rfl, hg4⟩; have HG4 := lib_hid ((Grows.refl w3).drew.trans hg4); have HO4 := lib_hid (HO3.out.grows HG4.out); have HS4 := lib_hid (HSl.out.grows HG4.out); have hle4 : W0.heap.size ≤ w4.heap.size := Nat.le_trans hle3 HG4.out.size; have hS4 := blk_there (HB3.out.grows HG4.out) hz16; clear hg4)
      | (refine step_append_atT rfl (.tmp 30) (.tmp 31) 26 26 rfl W0.heap.size 5 (.int .u8 0) 1 Try.underlying26 Try.infoByte rfl C nn e _ rfl HO4.out (.slice (some ⟨p12, 0, none⟩) 16 16) rfl 16 _ (Row.src HS4.out Try.underlying26 (b8_one ll)) (by omega) (by omega) hle4 ?_; intro A9 c9 w9 hO9 hG9 hl9; have HS9 : Hid (SB w9 A9 (nn + 16) c9 all) := (by have h := hO9.row; rw [← List.map_append, Hall.out] at h; exact h); have HG9 : Hid (Keeps (fun j => blkOf C = some j) w3 w9) := lib_hid ((HG4.out.keeps _).trans (keeps_grown hG9) (fun _ h _ => h)); have hS9 := blk_there (HB3.out.keeps HG9.out (fun e => by have := HCb.out p8 e; omega)) hz16; clear hO9 hG9 hl9)
      | (refine step_append_atT rfl (.tmp 30) (.tmp 31) 26 26 rfl W0.heap.size 5 (.int .u8 0) 1 Try.underlying26 Try.infoByte rfl C nn e _ rfl HO3d.out (.slice (some ⟨p12, 0, none⟩) 16 16) rfl 16 _ (Row.src HSd.out Try.underlying26 (b8_one ll)) (by omega) (by omega) hle3 ?_; intro A9 c9 w9 hO9 hG9 hl9; have HS9 : Hid (SB w9 A9 (nn + 16) c9 all) := (by have h := hO9.row; rw [← List.map_append, Hall.out] at h; exact h); have HG9 : Hid (Keeps (fun j => blkOf C = some j) w3 w9) := lib_hid (((Grows.refl w3).drew.keeps _).trans (keeps_grown hG9) (fun _ h _ => h)); have hS9 := blk_there (HB3.out.keeps HG9.out (fun e => by have := HCb.out p8 e; omega)) hz16; clear hO9 hG9 hl9)
      | (go_at_call 13; refine (HEk.out w9 HG9.out).mono ?_; rintro e4 w4 ⟨rfl, hg4⟩; have HSx := lib_hid (HS9.out.grows hg4); have HG4 : Hid (Keeps (fun j => blkOf C = some j) w3 w4) := lib_hid (HG9.out.trans (hg4.keeps _) (fun _ h _ => h)); have hS4 := blk_there (HB3.out.keeps HG4.out (fun e => by have := HCb.out p8 e; omega)) hz16; clear hg4 HG9 HS9)
      | (go_at_call 12; refine (sum_any ez all A9 (nn + 16) c9 ezl.out w9 HS9.out).mono ?_; rintro e6 w6 ⟨rfl, hg6⟩; have HG6 : Hid (Keeps (fun j => blkOf C = some j) w3 w6) := lib_hid (HG9.out.trans (hg6.keeps _) (fun _ h _ => h)); rw [Hss.out]; have hS6 := blk_there (HB3.out.keeps HG6.out (fun e => by have := HCb.out p8 e; omega)) hz16; clear hg6)
      | (go_at_call 12; refine (sum_any ez all A9 (nn + 16) c9 ezl.out w4 HSx.out).mono ?_; rintro e6 w6 ⟨rfl, hg6⟩; have HG6 : Hid (Keeps (fun j => blkOf C = some j) w3 w6) := lib_hid (HG4.out.trans (hg6.keeps _) (fun _ h _ => h)); rw [Hss.out]; have hS6 := blk_there (HB3.out.keeps HG6.out (fun e => by have := HCb.out p8 e; omega)) hz16; clear hg6))
      all_goals
        have HB9 : Hid (Blk (w6.setCells p8 0 (ss.map b8)) p8 23 (ss.map b8).toArray) := lib_hid (blk_setAll (HB3.out.keeps HG6.out (fun e => by have := HCb.out p8 e; omega)) (by rw [List.length_map, ssl.out]; rfl))
        have HGf : Hid (Grows w (w6.setCells p8 0 (ss.map b8))) := lib_hid (Below.trans (Below.trans hk8 (HG6.out.below hk8.size (fun i hi => by have := HCb.out i hi; have := Hp8.out; omega))) ((keeps_setCells p8 (ss.map b8) 0 w6).below (Nat.le_trans hk8.size HG6.out.size) (fun i hi => by have := Hp8.out; omega)))
        clear hS3 hS3d hi16 hu16 hl16 ho16 HEk HEz HEb
        go_wp2
        refine bodyPost_ret (results_cell_row rfl _ _ p8 _ (ss.map b8).toArray _ _ rfl HB9.out Try.underlying23 rfl (by rw [Try.size16]; simp [ssl.out])) rfl ?_
        exact ⟨by rw [HF.out], HGf.out⟩
end Go.Proofs.Ythcmdjaccjghjaa
