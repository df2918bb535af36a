/-
  Layer 11: what the laws of the sealed bytes lean on.
-/
import Derived.Test.YtgolndfimhogoaaAead5
import Derived.Test.YtgolndfimhogoaaLaw4a
import Derived.Deep.Cut
namespace Go.Proofs.Ytgolndfimhogoaa
open Go Go.RowKit
set_option linter.unusedSimpArgs false


theorem sealF_drop (key nonce aad bs : List UInt8) : (sealF key nonce aad bs).drop bs.length = tagF key nonce aad (cryptF key nonce 1 bs) := by
  unfold sealF; rw [List.drop_append_of_le_length (by rw [cryptF_len]; omega), List.drop_of_length_le (by rw [cryptF_len]; omega), List.nil_append]
theorem sealF_take (key nonce aad bs : List UInt8) : (sealF key nonce aad bs).take bs.length = cryptF key nonce 1 bs := by
  unfold sealF; rw [List.take_append_of_le_length (by rw [cryptF_len]; omega), List.take_of_length_le (by rw [cryptF_len]; omega)]
theorem open_sealF (key nonce aad bs : List UInt8) : openF key nonce aad (sealF key nonce aad bs) = bs ∧ openE key nonce aad (sealF key nonce aad bs) = 0 := by
  have hl := sealF_len key nonce aad bs
  unfold openF openE
  rw [hl, if_neg (by omega : ¬ bs.length + 16 < 16), if_neg (by omega : ¬ bs.length + 16 < 16), show bs.length + 16 - 16 = bs.length by omega, sealF_drop, sealF_take, if_pos rfl, if_pos rfl, crypt_back]
  exact ⟨rfl, rfl⟩
theorem open_set (key nonce aad bs : List UInt8) (i : Nat) (y : UInt8) (hi : i < 16) (hy : y ≠ (sealF key nonce aad bs).getD (bs.length + i) 0) :
    openF key nonce aad ((sealF key nonce aad bs).set (bs.length + i) y) = [] ∧ openE key nonce aad ((sealF key nonce aad bs).set (bs.length + i) y) = 7 := by
  have hl := sealF_len key nonce aad bs
  have e1 : ((sealF key nonce aad bs).set (bs.length + i) y).take bs.length = cryptF key nonce 1 bs := by
    rw [List.take_set_of_le (by omega), sealF_take]
  have e2 : ¬ ((sealF key nonce aad bs).set (bs.length + i) y).drop bs.length = tagF key nonce aad (cryptF key nonce 1 bs) := fun h => by
    rw [← sealF_drop] at h
    have h2 := congrArg (fun l => l.getD i 0) h
    simp only [List.getD_eq_getElem?_getD, List.getElem?_drop] at h2
    rw [List.getElem?_set_self (by omega)] at h2
    exact hy (by rw [List.getD_eq_getElem?_getD]; exact h2)
  unfold openF openE
  rw [List.length_set, hl, if_neg (by omega : ¬ bs.length + 16 < 16), if_neg (by omega : ¬ bs.length + 16 < 16), show bs.length + 16 - 16 = bs.length by omega, e1, if_neg e2, if_neg e2]
  exact ⟨rfl, rfl⟩

theorem Try.size3k : (Try.prog.info? 24).map (·.size) = some 3 := by kernel_rfl
set_option maxRecDepth 100000 in
set_option maxHeartbeats 4000000 in
theorem short11_any (D E A : Option Addr) (nk nn na c0 d0 c : Nat) (w : World) :
    Calls Try.prog 8 #[.agg #[.slice D nk c0, .slice E nn d0, .slice A na c]] w fun e w' => e = .returned (.bool (decide (nk ≤ 100 ∧ nn ≤ 100 ∧ na ≤ 200))) ∧ Grows w w' := by
  obtain ⟨W0, HW0, hW0, hg0⟩ : ∃ W0 : World, Hid (W0 = w.alloc (.cells #[.slice D nk c0, .slice E nn d0, .slice A na c] 24)) ∧ W0.heap.size = w.heap.size + 1 ∧ Grows w W0 := ⟨_, lib_hid rfl, by simp, (Grows.refl w).alloc _⟩
  have HB : Hid (Blk W0 w.heap.size 24 #[.slice D nk c0, .slice E nn d0, .slice A na c]) := by unfold Hid; rw [HW0.out]; exact Blk.new _ _ _
  have HC : Hid (∀ W, Grows W0 W → W.cell? ⟨w.heap.size, 0, none⟩ = some (.slice D nk c0) ∧ W.cell? ⟨w.heap.size, 1, none⟩ = some (.slice E nn d0) ∧ W.cell? ⟨w.heap.size, 2, none⟩ = some (.slice A na c)) :=
    fun W hW => ⟨(HB.out.grows hW).cell 0, (HB.out.grows hW).cell 1, (HB.out.grows hW).cell 2⟩
  have HW0' := HW0.out
  rcases (by omega : ((nk : Int) ≤ 100 ∧ (nn : Int) ≤ 100 ∧ (na : Int) ≤ 200) ∨ ¬ ((nk : Int) ≤ 100) ∨ ((nk : Int) ≤ 100 ∧ ¬ (nn : Int) ≤ 100) ∨ ((nk : Int) ≤ 100 ∧ (nn : Int) ≤ 100 ∧ ¬ (na : Int) ≤ 200)) with ⟨h1, h2, h3⟩ | h1 | ⟨h1, h2⟩ | ⟨h1, h2, h3⟩
  · have hd : decide (nk ≤ 100 ∧ nn ≤ 100 ∧ na ≤ 200) = true := decide_eq_true (by omega)
    go_enter Try.func8, Try.ntmps8
    go_upto_region 1 with fail
    rw [← HW0']
    clear HW0'
    obtain ⟨q0, q1, q2⟩ := HC.out W0 (Grows.refl _)
    go_wp2
    go_ret
    refine ⟨?_, hg0⟩
    first | rfl | (rw [hd]; first | rfl | simp [*])
  · have hd : decide (nk ≤ 100 ∧ nn ≤ 100 ∧ na ≤ 200) = false := decide_eq_false (by omega)
    go_enter Try.func8, Try.ntmps8
    go_upto_region 1 with fail
    rw [← HW0']
    clear HW0'
    obtain ⟨q0, q1, q2⟩ := HC.out W0 (Grows.refl _)
    go_wp2
    go_ret
    refine ⟨?_, hg0⟩
    first | rfl | (rw [hd]; first | rfl | simp [*])
  · have hd : decide (nk ≤ 100 ∧ nn ≤ 100 ∧ na ≤ 200) = false := decide_eq_false (by omega)
    go_enter Try.func8, Try.ntmps8
    go_upto_region 1 with fail
    rw [← HW0']
    clear HW0'
    obtain ⟨q0, q1, q2⟩ := HC.out W0 (Grows.refl _)
    go_wp2
    go_ret
    refine ⟨?_, hg0⟩
    first | rfl | (rw [hd]; first | rfl | simp [*])
  · have hd : decide (nk ≤ 100 ∧ nn ≤ 100 ∧ na ≤ 200) = false := decide_eq_false (by omega)
    go_enter Try.func8, Try.ntmps8
    go_upto_region 1 with fail
    rw [← HW0']
    clear HW0'
    obtain ⟨q0, q1, q2⟩ := HC.out W0 (Grows.refl _)
    go_wp2
    go_ret
    refine ⟨?_, hg0⟩
    first | rfl | (rw [hd]; first | rfl | simp [*])

set_option maxRecDepth 100000 in
set_option maxHeartbeats 4000000 in
theorem wrong11_any (D E A : Option Addr) (nk nn na c0 d0 c : Nat) (w : World) :
    Calls Try.prog 10 #[.agg #[.slice D nk c0, .slice E nn d0, .slice A na c]] w fun e w' => e = .returned (.int .i64 (if nk ≠ 32 then 5 else if nn ≠ 12 then 6 else 0)) ∧ Grows w w' := by
  obtain ⟨W0, HW0, hW0, hg0⟩ : ∃ W0 : World, Hid (W0 = w.alloc (.cells #[.slice D nk c0, .slice E nn d0, .slice A na c] 24)) ∧ W0.heap.size = w.heap.size + 1 ∧ Grows w W0 := ⟨_, lib_hid rfl, by simp, (Grows.refl w).alloc _⟩
  have HB : Hid (Blk W0 w.heap.size 24 #[.slice D nk c0, .slice E nn d0, .slice A na c]) := by unfold Hid; rw [HW0.out]; exact Blk.new _ _ _
  have HC : Hid (∀ W, Grows W0 W → W.cell? ⟨w.heap.size, 0, none⟩ = some (.slice D nk c0) ∧ W.cell? ⟨w.heap.size, 1, none⟩ = some (.slice E nn d0) ∧ W.cell? ⟨w.heap.size, 2, none⟩ = some (.slice A na c)) :=
    fun W hW => ⟨(HB.out.grows hW).cell 0, (HB.out.grows hW).cell 1, (HB.out.grows hW).cell 2⟩
  have HW0' := HW0.out
  by_cases h1 : nk = 32
  · subst h1
    by_cases h2 : nn = 12
    · subst h2
      go_enter Try.func10, Try.ntmps10
      go_upto_region 1 with fail
      rw [← HW0']
      clear HW0'
      obtain ⟨q0, q1, q2⟩ := HC.out W0 (Grows.refl _)
      go_wp2
      go_ret
      exact ⟨rfl, hg0⟩
    · have h2' : ¬ (nn : Int) = 12 := by omega
      have h2'' : ((nn : Int) != 12) = true := by simp; omega
      go_enter Try.func10, Try.ntmps10
      go_upto_region 1 with fail
      rw [← HW0']
      clear HW0'
      obtain ⟨q0, q1, q2⟩ := HC.out W0 (Grows.refl _)
      go_wp2
      go_ret
      exact ⟨by simp [h2], hg0⟩
  · have h1' : ¬ (nk : Int) = 32 := by omega
    have h1'' : ((nk : Int) != 32) = true := by simp; omega
    go_enter Try.func10, Try.ntmps10
    go_upto_region 1 with fail
    rw [← HW0']
    clear HW0'
    obtain ⟨q0, q1, q2⟩ := HC.out W0 (Grows.refl _)
    go_wp2
    go_ret
    exact ⟨by simp [h1], hg0⟩

set_option maxRecDepth 100000 in
set_option maxHeartbeats 4000000 in
theorem awake11_any (w : World) : Calls Try.prog 11 #[] w fun e w' => e = .returned (.bool true) ∧ Grows w w' := by
  have hg0 := Grows.refl w
  obtain ⟨z32, Hz32⟩ : ∃ z : List UInt8, Hid (z = List.replicate 32 0) := ⟨_, lib_hid rfl⟩
  obtain ⟨z12, Hz12⟩ : ∃ z : List UInt8, Hid (z = List.replicate 12 0) := ⟨_, lib_hid rfl⟩
  obtain ⟨tg, Htg, tgl⟩ : ∃ x, Hid (sealF z32 z12 [] [] = x) ∧ Hid (x.length = 16) := ⟨_, lib_hid rfl, by unfold Hid; rw [sealF_len]; rfl⟩
  have Hs : Hid (∀ (D E : Option Addr) (c0 d0 : Nat) W, SB W D 32 c0 z32 → SB W E 12 d0 z12 → Calls Try.prog 9 #[.slice D 32 c0, .slice E 12 d0, .slice none 0 0, .slice none 0 0] W (Res2 W tg 0)) := fun D E c0 d0 W h1 h2 => by
    rw [← Htg.out]; exact seal_any _ _ [] [] D E c0 d0 none none 0 0 0 0 W h1 h2 (SB.nil _) (SB.nil _) (by omega) (by omega)
  have Ho : Hid (∀ (D E : Option Addr) (c0 d0 : Nat) (B : Option Addr) (m d : Nat) W, SB W D 32 c0 z32 → SB W E 12 d0 z12 → SB W B m d tg → Calls Try.prog 13 #[.slice D 32 c0, .slice E 12 d0, .slice none 0 0, .slice B m d] W (Res2 W [] 0)) := fun D E c0 d0 B m d W h1 h2 h3 => by
    have := open_any z32 z12 [] tg D E c0 d0 none B 0 0 m d W h1 h2 (SB.nil _) h3 (by omega) (by rw [← h3.len, tgl.out]; omega)
    rw [← Htg.out, (open_sealF _ _ _ _).1, (open_sealF _ _ _ _).2] at this
    exact this
  go_enter Try.func11, Try.ntmps11
  go_upto_region 1 with fail
  apply wp_region_mono 8 ((.pr (fun v W => ∃ g, v = .slice (some ⟨g, 0, none⟩) 32 32 ∧ SB W (some ⟨g, 0, none⟩) 32 32 z32), []) :: (.pr (fun v W => ∃ g, v = .slice (some ⟨g, 0, none⟩) 12 12 ∧ SB W (some ⟨g, 0, none⟩) 12 12 z12), []) :: (.pr (fun v W => ∃ A n c, v = .tuple #[.slice A n c, .int .i64 0] ∧ n = 16 ∧ OwnAt W w.heap.size A n c ((tg).map b8)), [0, 1]) :: (.pr (fun v W => ∃ A n c, v = .tuple #[.slice A n c, .int .i64 0] ∧ n = 16 ∧ OwnAt W w.heap.size A n c ((tg).map b8)), [2]) :: (.pr (fun v W => ∃ A n c, v = .slice A n c ∧ n = 16 ∧ OwnAt W w.heap.size A n c ((tg).map b8)), [3]) :: (.is (.int .i64 0), [3]) :: (.pr (fun v W => ∃ A n c, v = .slice A n c ∧ n = 16 ∧ OwnAt W w.heap.size A n c ((tg).map b8)), [4]) :: (.is _, []) :: []) (by kernel_rfl) (by kernel_rfl)
  apply Mono.pr0
  · kernel_rfl
  · exact fun v W W' hW ⟨g, h1, h2⟩ => ⟨g, h1, h2.grows hW⟩
  · intro W hW 
    have hmk : (Instr.makeSlice 22 (.int .i64 32) (.int .i64 32)).run Try.prog W = .ok (.slice (some ⟨W.heap.size, 0, none⟩) 32 32) (W.alloc (.cells (madeCells #[Value.int .u8 0] 32) 5)) := run_make_row' (P := Try.prog) 22 5 (.int .u8 0) 1 Try.underlying22 Try.infoByte rfl .i64 .i64 32 (by omega) (by omega) W
    have hsz := made_zeros8 W 5 32 (by omega)
    rw [← Hz32.out] at hsz
    have HSZ := lib_hid hsz
    clear hsz
    go_wp2
    exact ⟨rfl, rfl, (Grows.refl _).alloc _, _, rfl, HSZ.out⟩
  intro v0
  intro k1 a1 hk1 ha1
  simp only [Nat.reduceAdd] at hk1
  simp only [Act.put, List.setIfInBounds_toArray, List.set_cons_succ, List.set_cons_zero] at ha1
  subst hk1 ha1
  apply Mono.pr0
  · kernel_rfl
  · exact fun v W W' hW ⟨g, h1, h2⟩ => ⟨g, h1, h2.grows hW⟩
  · intro W hW 
    have hmk : (Instr.makeSlice 22 (.int .i64 12) (.int .i64 12)).run Try.prog W = .ok (.slice (some ⟨W.heap.size, 0, none⟩) 12 12) (W.alloc (.cells (madeCells #[Value.int .u8 0] 12) 5)) := run_make_row' (P := Try.prog) 22 5 (.int .u8 0) 1 Try.underlying22 Try.infoByte rfl .i64 .i64 12 (by omega) (by omega) W
    have hsz := made_zeros8 W 5 12 (by omega)
    rw [← Hz12.out] at hsz
    have HSZ := lib_hid hsz
    clear hsz
    go_wp2
    exact ⟨rfl, rfl, (Grows.refl _).alloc _, _, rfl, HSZ.out⟩
  intro v1
  intro k1 a1 hk1 ha1
  simp only [Nat.reduceAdd] at hk1
  simp only [Act.put, List.setIfInBounds_toArray, List.set_cons_succ, List.set_cons_zero] at ha1
  subst hk1 ha1
  apply Mono.pr2
  · kernel_rfl
  · exact fun v W W' hW ⟨A, n, c, h1, h2, h3⟩ => ⟨A, n, c, h1, h2, h3.grows hW⟩
  · intro W hW f0 f1
    obtain ⟨g1, rfl, s1⟩ := f0
    obtain ⟨g2, rfl, s2⟩ := f1
    have S1 := lib_hid s1
    have S2 := lib_hid s2
    clear s1 s2
    go_wp2_with fail
    refine (Hs.out (some ⟨g1, 0, none⟩) (some ⟨g2, 0, none⟩) 32 12 W S1.out S2.out).mono ?_
    rintro e w1 ⟨A1, n1, c1, hn1, rfl, hg1, ho1⟩
    have HO1 := lib_hid (own_at_base ho1 (hg0.trans hW).le)
    have HN1 : Hid (n1 = 16) := by unfold Hid; rw [hn1.out, tgl.out]
    clear ho1 hn1
    go_wp2
    exact ⟨rfl, rfl, hg1, A1, n1, c1, rfl, HN1.out, HO1.out⟩
  intro v2
  intro k1 a1 hk1 ha1
  simp only [Nat.reduceAdd] at hk1
  simp only [Act.put, List.setIfInBounds_toArray, List.set_cons_succ, List.set_cons_zero] at ha1
  subst hk1 ha1
  apply Mono.pr1
  · kernel_rfl
  · exact fun v W W' hW ⟨A, n, c, h1, h2, h3⟩ => ⟨A, n, c, h1, h2, h3.grows hW⟩
  · intro W hW f0
    obtain ⟨A1, n1, c1, rfl, hn1, ho1⟩ := f0
    have HO1 := lib_hid ho1
    have HN1 := lib_hid hn1
    clear ho1 hn1
    go_wp2
    refine ⟨rfl, rfl, Grows.refl _, A1, n1, c1, ?_, HN1.out, HO1.out⟩
    unfold Oper.valAt
    go_simp
  intro v3
  intro k1 a1 hk1 ha1
  simp only [Nat.reduceAdd] at hk1
  simp only [Act.put, List.setIfInBounds_toArray, List.set_cons_succ, List.set_cons_zero] at ha1
  subst hk1 ha1
  apply Mono.pr1
  · kernel_rfl
  · exact fun v W W' hW ⟨A, n, c, h1, h2, h3⟩ => ⟨A, n, c, h1, h2, h3.grows hW⟩
  · intro W hW f0
    obtain ⟨A1, n1, c1, rfl, hn1, ho1⟩ := f0
    have HO1 := lib_hid ho1
    have HN1 := lib_hid hn1
    clear ho1 hn1
    go_wp2
    refine ⟨rfl, rfl, Grows.refl _, A1, n1, c1, ?_, HN1.out, HO1.out⟩
    unfold Oper.valAt
    go_simp
  intro v4
  intro k1 a1 hk1 ha1
  simp only [Nat.reduceAdd] at hk1
  simp only [Act.put, List.setIfInBounds_toArray, List.set_cons_succ, List.set_cons_zero] at ha1
  subst hk1 ha1
  apply Mono.is1
  · kernel_rfl
  · intro W hW f0
    obtain ⟨A1, n1, c1, rfl, hn1, ho1⟩ := f0
    have HO1 := lib_hid ho1
    have HN1 := lib_hid hn1
    clear ho1 hn1
    go_wp2
    refine ⟨rfl, rfl, Grows.refl _, ?_⟩
    unfold Oper.valAt
    go_simp
  intro k1 a1 hk1 ha1
  simp only [Nat.reduceAdd] at hk1
  simp only [Act.put, List.setIfInBounds_toArray, List.set_cons_succ, List.set_cons_zero] at ha1
  subst hk1 ha1
  apply Mono.pr1
  · kernel_rfl
  · exact fun v W W' hW ⟨A, n, c, h1, h2, h3⟩ => ⟨A, n, c, h1, h2, h3.grows hW⟩
  · intro W hW f0
    obtain ⟨A1, n1, c1, rfl, hn1, ho1⟩ := f0
    have HO1 := lib_hid ho1
    have HN1 := lib_hid hn1
    clear ho1 hn1
    go_wp2
    refine ⟨rfl, rfl, Grows.refl _, A1, n1, c1, ?_, HN1.out, HO1.out⟩
    unfold Oper.valAt
    go_simp
  intro v6
  intro k1 a1 hk1 ha1
  simp only [Nat.reduceAdd] at hk1
  simp only [Act.put, List.setIfInBounds_toArray, List.set_cons_succ, List.set_cons_zero] at ha1
  subst hk1 ha1
  apply Mono.is0
  · kernel_rfl
  · intro W hW
    go_wp2
    refine ⟨rfl, rfl, Grows.refl _, ?_⟩
    unfold Oper.valAt
    go_simp
    rfl
  intro k1 a1 hk1 ha1
  simp only [Nat.reduceAdd] at hk1
  simp only [Act.put, List.setIfInBounds_toArray, List.set_cons_succ, List.set_cons_zero] at ha1
  subst hk1 ha1
  refine Mono.done ?_
  intro wm1 hgm1
  simp only [allF, List.drop_succ_cons, List.drop_zero]
  intro g6 g4 g3 g2 g1 g0
  obtain ⟨A0, n0, k0, rfl, hn0, ho0⟩ := g6
  obtain rfl := hn0
  have HT : Hid (SB wm1 A0 16 k0 tg) := ho0.row
  clear hg0
  have hgx : Grows wm1 wm1 := Grows.refl _
  clear ho0
  go_upto_region 2 with fail
  apply wp_region_mono 9 ((.pr (fun v W => ∃ g, v = .slice (some ⟨g, 0, none⟩) 32 32 ∧ SB W (some ⟨g, 0, none⟩) 32 32 z32), []) :: (.pr (fun v W => ∃ g, v = .slice (some ⟨g, 0, none⟩) 12 12 ∧ SB W (some ⟨g, 0, none⟩) 12 12 z12), []) :: (.is _, []) :: (.pr (fun v W => ∃ A n c, v = .tuple #[.slice A n c, .int .i64 0] ∧ Hid (n = 0)), [0, 1]) :: (.pr (fun v W => ∃ A n c, v = .tuple #[.slice A n c, .int .i64 0] ∧ Hid (n = 0)), [3]) :: (.pr (fun v W => ∃ A n c, v = .slice A n c ∧ Hid (n = 0)), [4]) :: (.is (.int .i64 0), [4]) :: (.pr (fun v W => ∃ A n c, v = .slice A n c ∧ Hid (n = 0)), [5]) :: (.is _, []) :: []) (by kernel_rfl) (by kernel_rfl)
  apply Mono.pr0
  · kernel_rfl
  · exact fun v W W' hW ⟨g, h1, h2⟩ => ⟨g, h1, h2.grows hW⟩
  · intro W hW 
    have hmk : (Instr.makeSlice 22 (.int .i64 32) (.int .i64 32)).run Try.prog W = .ok (.slice (some ⟨W.heap.size, 0, none⟩) 32 32) (W.alloc (.cells (madeCells #[Value.int .u8 0] 32) 5)) := run_make_row' (P := Try.prog) 22 5 (.int .u8 0) 1 Try.underlying22 Try.infoByte rfl .i64 .i64 32 (by omega) (by omega) W
    have hsz := made_zeros8 W 5 32 (by omega)
    rw [← Hz32.out] at hsz
    have HSZ := lib_hid hsz
    clear hsz
    go_wp2
    exact ⟨rfl, rfl, (Grows.refl _).alloc _, _, rfl, HSZ.out⟩
  intro v0
  intro k1 a1 hk1 ha1
  simp only [Nat.reduceAdd] at hk1
  simp only [Act.put, List.setIfInBounds_toArray, List.set_cons_succ, List.set_cons_zero] at ha1
  subst hk1 ha1
  apply Mono.pr0
  · kernel_rfl
  · exact fun v W W' hW ⟨g, h1, h2⟩ => ⟨g, h1, h2.grows hW⟩
  · intro W hW 
    have hmk : (Instr.makeSlice 22 (.int .i64 12) (.int .i64 12)).run Try.prog W = .ok (.slice (some ⟨W.heap.size, 0, none⟩) 12 12) (W.alloc (.cells (madeCells #[Value.int .u8 0] 12) 5)) := run_make_row' (P := Try.prog) 22 5 (.int .u8 0) 1 Try.underlying22 Try.infoByte rfl .i64 .i64 12 (by omega) (by omega) W
    have hsz := made_zeros8 W 5 12 (by omega)
    rw [← Hz12.out] at hsz
    have HSZ := lib_hid hsz
    clear hsz
    go_wp2
    exact ⟨rfl, rfl, (Grows.refl _).alloc _, _, rfl, HSZ.out⟩
  intro v1
  intro k1 a1 hk1 ha1
  simp only [Nat.reduceAdd] at hk1
  simp only [Act.put, List.setIfInBounds_toArray, List.set_cons_succ, List.set_cons_zero] at ha1
  subst hk1 ha1
  apply Mono.is0
  · kernel_rfl
  · intro W hW
    go_wp2
    refine ⟨rfl, rfl, Grows.refl _, ?_⟩
    unfold Oper.valAt
    go_simp
    rfl
  intro k1 a1 hk1 ha1
  simp only [Nat.reduceAdd] at hk1
  simp only [Act.put, List.setIfInBounds_toArray, List.set_cons_succ, List.set_cons_zero] at ha1
  subst hk1 ha1
  apply Mono.pr2
  · kernel_rfl
  · exact fun v W W' hW h => h
  · intro W hW f0 f1
    obtain ⟨g1, rfl, s1⟩ := f0
    obtain ⟨g2, rfl, s2⟩ := f1
    have S1 := lib_hid s1
    have S2 := lib_hid s2
    clear s1 s2
    go_wp2_with fail
    refine (Ho.out (some ⟨g1, 0, none⟩) (some ⟨g2, 0, none⟩) 32 12 A0 16 k0 W S1.out S2.out (HT.out.grows (hgx.trans hW))).mono ?_
    rintro e w1 ⟨A1, n1, c1, hn1, rfl, hg1, ho1⟩
    clear ho1
    go_wp2
    exact ⟨rfl, rfl, hg1, A1, n1, c1, rfl, hn1⟩
  intro v3
  intro k1 a1 hk1 ha1
  simp only [Nat.reduceAdd] at hk1
  simp only [Act.put, List.setIfInBounds_toArray, List.set_cons_succ, List.set_cons_zero] at ha1
  subst hk1 ha1
  apply Mono.pr1
  · kernel_rfl
  · exact fun v W W' hW h => h
  · intro W hW f0
    obtain ⟨A1, n1, c1, rfl, hn1⟩ := f0
    go_wp2
    refine ⟨rfl, rfl, Grows.refl _, A1, n1, c1, ?_, hn1⟩
    unfold Oper.valAt
    go_simp
  intro v4
  intro k1 a1 hk1 ha1
  simp only [Nat.reduceAdd] at hk1
  simp only [Act.put, List.setIfInBounds_toArray, List.set_cons_succ, List.set_cons_zero] at ha1
  subst hk1 ha1
  apply Mono.pr1
  · kernel_rfl
  · exact fun v W W' hW h => h
  · intro W hW f0
    obtain ⟨A1, n1, c1, rfl, hn1⟩ := f0
    go_wp2
    refine ⟨rfl, rfl, Grows.refl _, A1, n1, c1, ?_, hn1⟩
    unfold Oper.valAt
    go_simp
  intro v5
  intro k1 a1 hk1 ha1
  simp only [Nat.reduceAdd] at hk1
  simp only [Act.put, List.setIfInBounds_toArray, List.set_cons_succ, List.set_cons_zero] at ha1
  subst hk1 ha1
  apply Mono.is1
  · kernel_rfl
  · intro W hW f0
    obtain ⟨A1, n1, c1, rfl, hn1⟩ := f0
    go_wp2
    refine ⟨rfl, rfl, Grows.refl _, ?_⟩
    unfold Oper.valAt
    go_simp
  intro k1 a1 hk1 ha1
  simp only [Nat.reduceAdd] at hk1
  simp only [Act.put, List.setIfInBounds_toArray, List.set_cons_succ, List.set_cons_zero] at ha1
  subst hk1 ha1
  apply Mono.pr1
  · kernel_rfl
  · exact fun v W W' hW h => h
  · intro W hW f0
    obtain ⟨A1, n1, c1, rfl, hn1⟩ := f0
    go_wp2
    refine ⟨rfl, rfl, Grows.refl _, A1, n1, c1, ?_, hn1⟩
    unfold Oper.valAt
    go_simp
  intro v7
  intro k1 a1 hk1 ha1
  simp only [Nat.reduceAdd] at hk1
  simp only [Act.put, List.setIfInBounds_toArray, List.set_cons_succ, List.set_cons_zero] at ha1
  subst hk1 ha1
  apply Mono.is0
  · kernel_rfl
  · intro W hW
    go_wp2
    refine ⟨rfl, rfl, Grows.refl _, ?_⟩
    unfold Oper.valAt
    go_simp
    rfl
  intro k1 a1 hk1 ha1
  simp only [Nat.reduceAdd] at hk1
  simp only [Act.put, List.setIfInBounds_toArray, List.set_cons_succ, List.set_cons_zero] at ha1
  subst hk1 ha1
  refine Mono.done ?_
  intro wm2 hgm2
  simp only [allF, List.drop_succ_cons, List.drop_zero]
  intro g7 g5 g4 g3 g1 g0
  go_wp2
  go_ret
  exact ⟨rfl, hgm1.trans hgm2⟩

end Go.Proofs.Ytgolndfimhogoaa
