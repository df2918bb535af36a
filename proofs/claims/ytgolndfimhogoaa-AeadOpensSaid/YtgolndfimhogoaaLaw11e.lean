/-
  The walk of AeadOpens.
-/
import Derived.Test.YtgolndfimhogoaaAeadM
import Derived.Test.YtgolndfimhogoaaOpenAead
import Derived.Deep.Cut
import Derived.Deep.RegionHeldLaw
namespace Go.Proofs.Ytgolndfimhogoaa
open Go Go.RowKit
set_option linter.unusedSimpArgs false
set_option linter.unusedVariables false

set_option maxRecDepth 100000 in
set_option maxHeartbeats 4000000 in
theorem walk_AeadOpens (key nonce aad : List UInt8) (D E A : Option Addr) (nk nn na c0 d0 c : Nat) (B : Option Addr) (m d : Nat) (bs : List UInt8) (w : World) (hk : SB w D nk c0 key) (hn : SB w E nn d0 nonce) (ha : SB w A na c aad) (hb : SB w B m d bs) :
    Calls Try.prog 4 #[.agg #[.slice D nk c0, .slice E nn d0, .slice A na c], .slice B m d] w fun e w' => e = .returned (.bool true) ∧ Below w.heap.size w w' := by
  obtain ⟨W0, HW0, hW0, hg0⟩ : ∃ W0 : World, Hid (W0 = w.alloc (.cells #[.slice D nk c0, .slice E nn d0, .slice A na c] 24)) ∧ W0.heap.size = w.heap.size + 1 ∧ Grows w W0 := ⟨_, lib_hid rfl, by simp, (Grows.refl w).alloc _⟩
  have HB : Hid (Blk W0 w.heap.size 24 #[.slice D nk c0, .slice E nn d0, .slice A na c]) := by unfold Hid; rw [HW0.out]; exact Blk.new _ _ _
  have HC : Hid (∀ W, Grows W0 W → W.cell? ⟨w.heap.size, 0, none⟩ = some (.slice D nk c0) ∧ W.cell? ⟨w.heap.size, 1, none⟩ = some (.slice E nn d0) ∧ W.cell? ⟨w.heap.size, 2, none⟩ = some (.slice A na c)) :=
    fun W hW => ⟨(HB.out.grows hW).cell 0, (HB.out.grows hW).cell 1, (HB.out.grows hW).cell 2⟩
  have HW0' := HW0.out
  have Hsh : Hid (∀ W, Calls Try.prog 8 #[.agg #[.slice D nk c0, .slice E nn d0, .slice A na c]] W fun e w' => e = .returned (.bool (decide (nk ≤ 100 ∧ nn ≤ 100 ∧ na ≤ 200))) ∧ Grows W w') := fun W => short11_any D E A nk nn na c0 d0 c W
  have Hwr : Hid (∀ W, Calls Try.prog 10 #[.agg #[.slice D nk c0, .slice E nn d0, .slice A na c]] W fun e w' => e = .returned (.int .i64 (if nk ≠ 32 then 5 else if nn ≠ 12 then 6 else 0)) ∧ Grows W w') := fun W => wrong11_any D E A nk nn na c0 d0 c W
  by_cases hbig : (200 : Int) < m
  · clear hk hn ha hb
    go_enter Try.func4, Try.ntmps4
    go_upto_region 1 with fail
    rw [← HW0']
    clear HW0'
    go_wp2
    go_ret
    exact ⟨rfl, hg0⟩
  have hgd : ¬ (200 : Int) < m := by omega
  by_cases hsh : nk ≤ 100 ∧ nn ≤ 100 ∧ na ≤ 200
  case neg =>
    have hd : decide (nk ≤ 100 ∧ nn ≤ 100 ∧ na ≤ 200) = false := decide_eq_false hsh
    rw [hd] at Hsh
    clear hd hsh hk hn ha hb
    go_enter Try.func4, Try.ntmps4
    go_upto_region 1 with fail
    rw [← HW0']
    clear HW0'
    obtain ⟨t0, t1, t2⟩ := HC.out W0 (Grows.refl _)
    go_wp2_with fail
    refine (Hsh.out W0).mono ?_
    rintro e w1 ⟨rfl, hg1⟩
    go_wp2
    go_ret
    exact ⟨rfl, hg0.trans hg1⟩
  have hd : decide (nk ≤ 100 ∧ nn ≤ 100 ∧ na ≤ 200) = true := decide_eq_true hsh
  rw [hd] at Hsh
  have hna : na ≤ 200 := hsh.2.2
  have HS := lib_hid (hb.grows hg0)
  have hbl := hb.len
  have hcm1 := hb.cap
  have hcm2 := hb.max
  unfold maxLen at hcm2
  by_cases hw : nk = 32 ∧ nn = 12
  · obtain ⟨rfl, rfl⟩ := hw
    rw [if_neg (by decide), if_neg (by decide)] at Hwr
    have HK := lib_hid (hk.grows hg0)
    have HN := lib_hid (hn.grows hg0)
    have HA := lib_hid (ha.grows hg0)
    obtain ⟨xs, Hxs⟩ : ∃ x, Hid (openF key nonce aad bs = x) := ⟨_, lib_hid rfl⟩
    obtain ⟨er, Her⟩ : ∃ x, Hid (openE key nonce aad bs = x) := ⟨_, lib_hid rfl⟩
    have Hop : Hid (∀ W (X : Option Addr) (l e : Nat), Grows W0 W → SB W X l e bs → Calls Try.prog 13 #[.slice D 32 c0, .slice E 12 d0, .slice A na c, .slice X l e] W (Res2 W xs er)) := fun W X l e hW h => by
      rw [← Hxs.out, ← Her.out]; exact open_any key nonce aad bs D E c0 d0 A X na c l e W (HK.out.grows hW) (HN.out.grows hW) (HA.out.grows hW) h (by omega) (by have := h.len; omega)
    by_cases h16 : m < 16
    · have hxs : xs = [] := by rw [← Hxs.out, openF, if_pos (by omega)]
      have her : er = 17 := by rw [← Her.out, openE, if_pos (by omega)]
      have hmi : (m : Int) < 16 := by omega
      subst hxs her
      clear hk hn ha hb hd hsh hbl h16 Hxs Her
      go_enter Try.func4, Try.ntmps4
      go_upto_region 1 with fail
      rw [← HW0']
      clear HW0'
      obtain ⟨t0, t1, t2⟩ := HC.out W0 (Grows.refl _)
      go_wp2_with fail
      refine (Hsh.out W0).mono ?_
      rintro e w1 ⟨rfl, hg1⟩
      go_upto_region 3 with fail
      have HO1 : Hid (OwnAt (w1.drew.alloc (.cells #[] 5)) w1.heap.size (some ⟨w1.heap.size, 0, none⟩) 0 0 []) := OwnAt.of_own (World.ownsRow_lit (base := w1.heap.size) (e := 5) (size := 1) w1.drew #[] 0 (Nat.le_refl _) (by unfold maxLen; omega) rfl)
      have hgd1 : Grows w1 (w1.drew.alloc (.cells #[] 5)) := (Grows.refl w1).drew.alloc _
      have Hg1 := lib_hid hg1
      have HS1 := lib_hid (HS.out.grows (hg1.trans hgd1))
      have hle1 : w1.heap.size ≤ (w1.drew.alloc (.cells #[] 5)).heap.size := hgd1.le
      have Hgd1 := lib_hid hgd1
      have hS1 := HC.out w1 hg1
      clear hgd1 t0 t1 t2
      go_region_held_law (fun W => W.cell? ⟨w.heap.size, 0, none⟩ = some (.slice D 32 c0) ∧ W.cell? ⟨w.heap.size, 1, none⟩ = some (.slice E 12 d0) ∧ W.cell? ⟨w.heap.size, 2, none⟩ = some (.slice A na c)) (first | assumption | go_keep)
        (first
          | (refine step_append_at rfl _ _ 22 22 rfl w1.heap.size 5 (.int .u8 0) 1 Try.underlying22 Try.infoByte rfl (some ⟨w1.heap.size, 0, none⟩) 0 0 [] rfl HO1.out (.slice B m d) rfl m _ (Row.src HS1.out Try.underlying22 (b8_one bs)) (by omega) (by omega) hle1 ?_; intro A9 c9 w9 hO9 hG9 hl9; rw [Nat.zero_add, List.nil_append] at hO9; try rw [Nat.zero_add]; have HS9 : Hid (SB w9 A9 m c9 bs) := hO9.row; have Hg9 : Hid (Grows w1 w9) := Hgd1.out.grown hG9 (fun k hk => by cases hk; exact Nat.le_refl _); have hS9 := HC.out w9 (Hg1.out.trans Hg9.out); clear hO9 hG9 hl9)
          | (go_at_call 13; refine (Hop.out _ A9 m c9 (Hg1.out.trans Hg9.out) HS9.out).mono ?_; rintro e w2 ⟨A2, n2, c2, hn2, rfl, hg2, ho2⟩; have HX : Hid (SB w2 A2 n2 c2 []) := ho2.row; have hg02 := (Hg1.out.trans Hg9.out).trans hg2; have hS2 := HC.out w2 hg02; clear ho2))
      clear hS1 hS9 hS2 HS9 HO1 HS1 hle1
      obtain ⟨v0, v1, v2⟩ := HC.out w2 hg02
      go_wp2_with fail
      refine (Hwr.out w2).mono ?_
      rintro e w3 ⟨rfl, hg3⟩
      have hg03 := hg02.trans hg3
      obtain rfl : n2 = 0 := hn2.out
      clear hn2 v0 v1 v2
      go_wp2_with fail
      refine (awake11_any w3).mono ?_
      rintro e w4 ⟨rfl, hg4⟩
      go_wp2
      go_ret
      exact ⟨rfl, (hg0.trans hg03).trans hg4⟩
    · have hmi : ¬ (m : Int) < 16 := by omega
      have h16' : 16 ≤ m := by omega
      have HRo : Hid (∀ W, Grows W0 W → Calls Try.prog 14 #[.slice D 32 c0, .slice E 12 d0, .slice A na c, .slice B m d] W fun e w' => ∃ A' n' c', e = .returned (.tuple #[.slice A' n' c', .bool (decide (er = 0))]) ∧ Grows W w' ∧ SB w' A' n' c' xs) := fun W hW => by
        rw [← Hxs.out, ← Her.out]; exact refOpen_any D E A B c0 d0 na c m d key nonce aad bs W (HK.out.grows hW) (HN.out.grows hW) (HA.out.grows hW) (HS.out.grows hW) (by omega) (by omega) h16'
      have her : er = 0 ∨ er = 7 := by
        rw [← Her.out, openE, if_neg (by omega)]; split
        · exact .inl rfl
        · exact .inr rfl
      clear hk hn ha hb hd hsh hbl h16 h16' Hxs Her
      rcases her with rfl | rfl
      · rw [show decide ((0 : Int) = 0) = true from rfl] at HRo
        go_enter Try.func4, Try.ntmps4
        go_upto_region 1 with fail
        rw [← HW0']
        clear HW0'
        obtain ⟨t0, t1, t2⟩ := HC.out W0 (Grows.refl _)
        go_wp2_with fail
        refine (Hsh.out W0).mono ?_
        rintro e w1 ⟨rfl, hg1⟩
        go_upto_region 3 with fail
        have HO1 : Hid (OwnAt (w1.drew.alloc (.cells #[] 5)) w1.heap.size (some ⟨w1.heap.size, 0, none⟩) 0 0 []) := OwnAt.of_own (World.ownsRow_lit (base := w1.heap.size) (e := 5) (size := 1) w1.drew #[] 0 (Nat.le_refl _) (by unfold maxLen; omega) rfl)
        have hgd1 : Grows w1 (w1.drew.alloc (.cells #[] 5)) := (Grows.refl w1).drew.alloc _
        have Hg1 := lib_hid hg1
        have HS1 := lib_hid (HS.out.grows (hg1.trans hgd1))
        have hle1 : w1.heap.size ≤ (w1.drew.alloc (.cells #[] 5)).heap.size := hgd1.le
        have Hgd1 := lib_hid hgd1
        have hS1 := HC.out w1 hg1
        clear hgd1 t0 t1 t2
        go_region_held_law (fun W => W.cell? ⟨w.heap.size, 0, none⟩ = some (.slice D 32 c0) ∧ W.cell? ⟨w.heap.size, 1, none⟩ = some (.slice E 12 d0) ∧ W.cell? ⟨w.heap.size, 2, none⟩ = some (.slice A na c)) (first | assumption | go_keep)
          (first
            | (refine step_append_at rfl _ _ 22 22 rfl w1.heap.size 5 (.int .u8 0) 1 Try.underlying22 Try.infoByte rfl (some ⟨w1.heap.size, 0, none⟩) 0 0 [] rfl HO1.out (.slice B m d) rfl m _ (Row.src HS1.out Try.underlying22 (b8_one bs)) (by omega) (by omega) hle1 ?_; intro A9 c9 w9 hO9 hG9 hl9; rw [Nat.zero_add, List.nil_append] at hO9; try rw [Nat.zero_add]; have HS9 : Hid (SB w9 A9 m c9 bs) := hO9.row; have Hg9 : Hid (Grows w1 w9) := Hgd1.out.grown hG9 (fun k hk => by cases hk; exact Nat.le_refl _); have hS9 := HC.out w9 (Hg1.out.trans Hg9.out); clear hO9 hG9 hl9)
            | (go_at_call 13; refine (Hop.out _ A9 m c9 (Hg1.out.trans Hg9.out) HS9.out).mono ?_; rintro e w2 ⟨A2, n2, c2, hn2, rfl, hg2, ho2⟩; have HX : Hid (SB w2 A2 n2 c2 xs) := ho2.row; have hg02 := (Hg1.out.trans Hg9.out).trans hg2; have hS2 := HC.out w2 hg02; clear ho2))
        clear hS1 hS9 hS2 HS9 HO1 HS1 hle1
        obtain ⟨v0, v1, v2⟩ := HC.out w2 hg02
        go_wp2_with fail
        refine (Hwr.out w2).mono ?_
        rintro e w3 ⟨rfl, hg3⟩
        have hg03 := hg02.trans hg3
        have HX3 := lib_hid (HX.out.grows hg3)
        obtain ⟨y0, y1, y2⟩ := HC.out w3 hg03
        clear HX hn2 v0 v1 v2 hg3
        go_wp2_with fail
        refine (HRo.out w3 hg03).mono ?_
        rintro e w4 ⟨A4, n4, c4, rfl, hg4, hs4⟩
        have hg04 := hg03.trans hg4
        have cv1 := run_string_SB (P := Try.prog) Try.underlying22 Try.underlying5 Try.underlying9 (HX3.out.grows hg4)
        have cv2 := run_string_SB (P := Try.prog) Try.underlying22 Try.underlying5 Try.underlying9 hs4
        clear y0 y1 y2 hs4 hg4
        go_wp2_with fail
        refine (awake11_any w4).mono ?_
        rintro e w5 ⟨rfl, hg5⟩
        go_wp2
        go_ret
        exact ⟨rfl, (hg0.trans hg04).trans hg5⟩
      · rw [show decide ((7 : Int) = 0) = false from rfl] at HRo
        go_enter Try.func4, Try.ntmps4
        go_upto_region 1 with fail
        rw [← HW0']
        clear HW0'
        obtain ⟨t0, t1, t2⟩ := HC.out W0 (Grows.refl _)
        go_wp2_with fail
        refine (Hsh.out W0).mono ?_
        rintro e w1 ⟨rfl, hg1⟩
        go_upto_region 3 with fail
        have HO1 : Hid (OwnAt (w1.drew.alloc (.cells #[] 5)) w1.heap.size (some ⟨w1.heap.size, 0, none⟩) 0 0 []) := OwnAt.of_own (World.ownsRow_lit (base := w1.heap.size) (e := 5) (size := 1) w1.drew #[] 0 (Nat.le_refl _) (by unfold maxLen; omega) rfl)
        have hgd1 : Grows w1 (w1.drew.alloc (.cells #[] 5)) := (Grows.refl w1).drew.alloc _
        have Hg1 := lib_hid hg1
        have HS1 := lib_hid (HS.out.grows (hg1.trans hgd1))
        have hle1 : w1.heap.size ≤ (w1.drew.alloc (.cells #[] 5)).heap.size := hgd1.le
        have Hgd1 := lib_hid hgd1
        have hS1 := HC.out w1 hg1
        clear hgd1 t0 t1 t2
        go_region_held_law (fun W => W.cell? ⟨w.heap.size, 0, none⟩ = some (.slice D 32 c0) ∧ W.cell? ⟨w.heap.size, 1, none⟩ = some (.slice E 12 d0) ∧ W.cell? ⟨w.heap.size, 2, none⟩ = some (.slice A na c)) (first | assumption | go_keep)
          (first
            | (refine step_append_at rfl _ _ 22 22 rfl w1.heap.size 5 (.int .u8 0) 1 Try.underlying22 Try.infoByte rfl (some ⟨w1.heap.size, 0, none⟩) 0 0 [] rfl HO1.out (.slice B m d) rfl m _ (Row.src HS1.out Try.underlying22 (b8_one bs)) (by omega) (by omega) hle1 ?_; intro A9 c9 w9 hO9 hG9 hl9; rw [Nat.zero_add, List.nil_append] at hO9; try rw [Nat.zero_add]; have HS9 : Hid (SB w9 A9 m c9 bs) := hO9.row; have Hg9 : Hid (Grows w1 w9) := Hgd1.out.grown hG9 (fun k hk => by cases hk; exact Nat.le_refl _); have hS9 := HC.out w9 (Hg1.out.trans Hg9.out); clear hO9 hG9 hl9)
            | (go_at_call 13; refine (Hop.out _ A9 m c9 (Hg1.out.trans Hg9.out) HS9.out).mono ?_; rintro e w2 ⟨A2, n2, c2, hn2, rfl, hg2, ho2⟩; have HX : Hid (SB w2 A2 n2 c2 xs) := ho2.row; have hg02 := (Hg1.out.trans Hg9.out).trans hg2; have hS2 := HC.out w2 hg02; clear ho2))
        clear hS1 hS9 hS2 HS9 HO1 HS1 hle1
        obtain ⟨v0, v1, v2⟩ := HC.out w2 hg02
        go_wp2_with fail
        refine (Hwr.out w2).mono ?_
        rintro e w3 ⟨rfl, hg3⟩
        have hg03 := hg02.trans hg3
        have HX3 := lib_hid (HX.out.grows hg3)
        obtain ⟨y0, y1, y2⟩ := HC.out w3 hg03
        clear HX hn2 v0 v1 v2 hg3
        go_wp2_with fail
        refine (HRo.out w3 hg03).mono ?_
        rintro e w4 ⟨A4, n4, c4, rfl, hg4, hs4⟩
        have hg04 := hg03.trans hg4
        have cv1 := run_string_SB (P := Try.prog) Try.underlying22 Try.underlying5 Try.underlying9 (HX3.out.grows hg4)
        have cv2 := run_string_SB (P := Try.prog) Try.underlying22 Try.underlying5 Try.underlying9 hs4
        clear y0 y1 y2 hs4 hg4
        go_wp2_with fail
        refine (awake11_any w4).mono ?_
        rintro e w5 ⟨rfl, hg5⟩
        go_wp2
        go_ret
        exact ⟨rfl, (hg0.trans hg04).trans hg5⟩
  · have hz : (if nk ≠ 32 then 5 else if nn ≠ 12 then 6 else 0) = (if nk ≠ 32 then (5 : Int) else 6) := by
      by_cases h1 : nk = 32
      · have h2 : nn ≠ 12 := fun h => hw ⟨h1, h⟩
        simp [h1, h2]
      · simp [h1]
    have Hop : Hid (∀ W (X : Option Addr) (l e : Nat), Grows W0 W → SB W X l e bs → Calls Try.prog 13 #[.slice D nk c0, .slice E nn d0, .slice A na c, .slice X l e] W (Res2 W [] (if nk ≠ 32 then 5 else 6))) := fun W X l e _ _ => open_bad D E A X nk c0 nn d0 na c l e W hw
    rw [hz] at Hwr
    by_cases h1 : nk ≠ 32
    · rw [if_pos h1] at Hwr Hop
      clear hk hn ha hb hd hsh hbl hw hz h1
      go_enter Try.func4, Try.ntmps4
      go_upto_region 1 with fail
      rw [← HW0']
      clear HW0'
      obtain ⟨t0, t1, t2⟩ := HC.out W0 (Grows.refl _)
      go_wp2_with fail
      refine (Hsh.out W0).mono ?_
      rintro e w1 ⟨rfl, hg1⟩
      go_upto_region 3 with fail
      have HO1 : Hid (OwnAt (w1.drew.alloc (.cells #[] 5)) w1.heap.size (some ⟨w1.heap.size, 0, none⟩) 0 0 []) := OwnAt.of_own (World.ownsRow_lit (base := w1.heap.size) (e := 5) (size := 1) w1.drew #[] 0 (Nat.le_refl _) (by unfold maxLen; omega) rfl)
      have hgd1 : Grows w1 (w1.drew.alloc (.cells #[] 5)) := (Grows.refl w1).drew.alloc _
      have Hg1 := lib_hid hg1
      have HS1 := lib_hid (HS.out.grows (hg1.trans hgd1))
      have hle1 : w1.heap.size ≤ (w1.drew.alloc (.cells #[] 5)).heap.size := hgd1.le
      have Hgd1 := lib_hid hgd1
      have hS1 := HC.out w1 hg1
      clear hgd1 t0 t1 t2
      go_region_held_law (fun W => W.cell? ⟨w.heap.size, 0, none⟩ = some (.slice D nk c0) ∧ W.cell? ⟨w.heap.size, 1, none⟩ = some (.slice E nn d0) ∧ W.cell? ⟨w.heap.size, 2, none⟩ = some (.slice A na c)) (first | assumption | go_keep)
        (first
          | (refine step_append_at rfl _ _ 22 22 rfl w1.heap.size 5 (.int .u8 0) 1 Try.underlying22 Try.infoByte rfl (some ⟨w1.heap.size, 0, none⟩) 0 0 [] rfl HO1.out (.slice B m d) rfl m _ (Row.src HS1.out Try.underlying22 (b8_one bs)) (by omega) (by omega) hle1 ?_; intro A9 c9 w9 hO9 hG9 hl9; rw [Nat.zero_add, List.nil_append] at hO9; try rw [Nat.zero_add]; have HS9 : Hid (SB w9 A9 m c9 bs) := hO9.row; have Hg9 : Hid (Grows w1 w9) := Hgd1.out.grown hG9 (fun k hk => by cases hk; exact Nat.le_refl _); have hS9 := HC.out w9 (Hg1.out.trans Hg9.out); clear hO9 hG9 hl9)
          | (go_at_call 13; refine (Hop.out _ A9 m c9 (Hg1.out.trans Hg9.out) HS9.out).mono ?_; rintro e w2 ⟨A2, n2, c2, hn2, rfl, hg2, ho2⟩; have HX : Hid (SB w2 A2 n2 c2 []) := ho2.row; have hg02 := (Hg1.out.trans Hg9.out).trans hg2; have hS2 := HC.out w2 hg02; clear ho2))
      clear hS1 hS9 hS2 HS9 HO1 HS1 hle1
      obtain ⟨v0, v1, v2⟩ := HC.out w2 hg02
      go_wp2_with fail
      refine (Hwr.out w2).mono ?_
      rintro e w3 ⟨rfl, hg3⟩
      have hg03 := hg02.trans hg3
      obtain rfl : n2 = 0 := hn2.out
      clear hn2 v0 v1 v2
      go_wp2_with fail
      refine (awake11_any w3).mono ?_
      rintro e w4 ⟨rfl, hg4⟩
      go_wp2
      go_ret
      exact ⟨rfl, (hg0.trans hg03).trans hg4⟩
    · rw [if_neg h1] at Hwr Hop
      clear hk hn ha hb hd hsh hbl hw hz h1
      go_enter Try.func4, Try.ntmps4
      go_upto_region 1 with fail
      rw [← HW0']
      clear HW0'
      obtain ⟨t0, t1, t2⟩ := HC.out W0 (Grows.refl _)
      go_wp2_with fail
      refine (Hsh.out W0).mono ?_
      rintro e w1 ⟨rfl, hg1⟩
      go_upto_region 3 with fail
      have HO1 : Hid (OwnAt (w1.drew.alloc (.cells #[] 5)) w1.heap.size (some ⟨w1.heap.size, 0, none⟩) 0 0 []) := OwnAt.of_own (World.ownsRow_lit (base := w1.heap.size) (e := 5) (size := 1) w1.drew #[] 0 (Nat.le_refl _) (by unfold maxLen; omega) rfl)
      have hgd1 : Grows w1 (w1.drew.alloc (.cells #[] 5)) := (Grows.refl w1).drew.alloc _
      have Hg1 := lib_hid hg1
      have HS1 := lib_hid (HS.out.grows (hg1.trans hgd1))
      have hle1 : w1.heap.size ≤ (w1.drew.alloc (.cells #[] 5)).heap.size := hgd1.le
      have Hgd1 := lib_hid hgd1
      have hS1 := HC.out w1 hg1
      clear hgd1 t0 t1 t2
      go_region_held_law (fun W => W.cell? ⟨w.heap.size, 0, none⟩ = some (.slice D nk c0) ∧ W.cell? ⟨w.heap.size, 1, none⟩ = some (.slice E nn d0) ∧ W.cell? ⟨w.heap.size, 2, none⟩ = some (.slice A na c)) (first | assumption | go_keep)
        (first
          | (refine step_append_at rfl _ _ 22 22 rfl w1.heap.size 5 (.int .u8 0) 1 Try.underlying22 Try.infoByte rfl (some ⟨w1.heap.size, 0, none⟩) 0 0 [] rfl HO1.out (.slice B m d) rfl m _ (Row.src HS1.out Try.underlying22 (b8_one bs)) (by omega) (by omega) hle1 ?_; intro A9 c9 w9 hO9 hG9 hl9; rw [Nat.zero_add, List.nil_append] at hO9; try rw [Nat.zero_add]; have HS9 : Hid (SB w9 A9 m c9 bs) := hO9.row; have Hg9 : Hid (Grows w1 w9) := Hgd1.out.grown hG9 (fun k hk => by cases hk; exact Nat.le_refl _); have hS9 := HC.out w9 (Hg1.out.trans Hg9.out); clear hO9 hG9 hl9)
          | (go_at_call 13; refine (Hop.out _ A9 m c9 (Hg1.out.trans Hg9.out) HS9.out).mono ?_; rintro e w2 ⟨A2, n2, c2, hn2, rfl, hg2, ho2⟩; have HX : Hid (SB w2 A2 n2 c2 []) := ho2.row; have hg02 := (Hg1.out.trans Hg9.out).trans hg2; have hS2 := HC.out w2 hg02; clear ho2))
      clear hS1 hS9 hS2 HS9 HO1 HS1 hle1
      obtain ⟨v0, v1, v2⟩ := HC.out w2 hg02
      go_wp2_with fail
      refine (Hwr.out w2).mono ?_
      rintro e w3 ⟨rfl, hg3⟩
      have hg03 := hg02.trans hg3
      obtain rfl : n2 = 0 := hn2.out
      clear hn2 v0 v1 v2
      go_wp2_with fail
      refine (awake11_any w3).mono ?_
      rintro e w4 ⟨rfl, hg4⟩
      go_wp2
      go_ret
      exact ⟨rfl, (hg0.trans hg03).trans hg4⟩

end Go.Proofs.Ytgolndfimhogoaa
