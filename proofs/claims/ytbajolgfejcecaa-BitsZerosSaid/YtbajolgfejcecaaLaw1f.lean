/-
  The walks of the laws of layer 1: BitsZeros.
-/
import Derived.Test.YtbajolgfejcecaaLaw1e
namespace Go.Proofs.Ytbajolgfejcecaa
open Go Go.RowKit

theorem big_ahead (pre : List UInt8) (n : UInt64) : bigF (pre ++ putBigF n 8) = n := by
  rw [bigF_last, List.reverse_append, putBigF, List.reverse_reverse, List.take_append_of_le_length (by rw [putLittleF_len]; omega), List.take_of_length_le (by rw [putLittleF_len]; omega), leN_eight]
  simp
theorem little_behind (post : List UInt8) (n : UInt64) : littleF (putLittleF n 8 ++ post) = n := by
  rw [littleF_eq, List.take_append_of_le_length (by rw [putLittleF_len]; omega), List.take_of_length_le (by rw [putLittleF_len]; omega), leN_eight]
  simp
theorem rep_b8 (k : Nat) : (Array.replicate k (Value.int .u8 0)).toList = (List.replicate k (0 : UInt8)).map b8 := by
  simp [b8]
theorem rep_b8' (k : Nat) : List.replicate k (Value.int .u8 0) = (List.replicate k (0 : UInt8)).map b8 := by
  simp [b8]

theorem lit123 : ([.int .u8 1, .int .u8 2, .int .u8 3] : List Value) = ([1, 2, 3] : List UInt8).map b8 := rfl

set_option maxRecDepth 100000 in
set_option maxHeartbeats 4000000 in
theorem walk_BitsZeros (x : UInt64) (many : UInt8) (w : World) :
    Calls Try.prog 8 #[.int .u64 x.toNat, .int .u8 many.toNat] w fun e w' => e = .returned (.bool true) ∧ Below w.heap.size w w' := by
  obtain ⟨k, hk, hk20⟩ : ∃ k : Nat, (many.toNat : Int) % 20 = (k : Int) ∧ k < 20 := ⟨many.toNat % 20, by omega, by omega⟩
  have hmany := u8_lt many
  have cb : ∀ (pre : List UInt8) (A : Option Addr) (n c : Nat) (W : World), SB W A n c (pre ++ putBigF x 8) → Calls Try.prog 14 #[.slice A n c] W fun e w' => e = .returned (.int .u64 x.toNat) ∧ W = w' := fun pre A n c W h => by
    have := big_any A n c _ W h
    rw [big_ahead] at this
    exact this
  have cl : ∀ (post : List UInt8) (A : Option Addr) (n c : Nat) (W : World), SB W A n c (putLittleF x 8 ++ post) → Calls Try.prog 16 #[.slice A n c] W fun e w' => e = .returned (.int .u64 x.toNat) ∧ Grows W w' := fun post A n c W h => by
    have := little_any A n c _ W h
    rw [little_behind] at this
    exact this
  have CB := lib_hid cb
  have CL := lib_hid cl
  clear cb cl
  go_enter Try.func8, Try.ntmps8
  go_wp2
  apply wp_region_mono 4 ((.is _, []) :: (.pr (fun v W => ∃ g, v = .slice (some ⟨g, 0, none⟩) k k ∧ Blk W g 5 (Array.replicate k (.int .u8 0)) ∧ w.heap.size ≤ g), []) :: (.is _, []) :: (.pr (fun v W => ∃ A n c, v = .slice A n c ∧ SB W A n c (putBigF x 8)), []) :: []) (by kernel_rfl) (by kernel_rfl)
  apply Mono.is0
  · kernel_rfl
  · intro W hW
    go_wp2
    refine ⟨rfl, rfl, Grows.refl _, ?_⟩
    unfold Oper.valAt
    go_simp
    rfl
  intro k1 a1 hk1 ha1
  simp only [Nat.reduceAdd] at hk1
  simp only [Act.put, List.setIfInBounds_toArray, List.set_cons_succ, List.set_cons_zero] at ha1
  subst hk1 ha1
  apply Mono.pr0
  · kernel_rfl
  · exact fun v W W' hW ⟨g, h1, h2, h3⟩ => ⟨g, h1, h2.grows hW, h3⟩
  · intro W hW 
    go_wp2_with (at_make; refine wpList_make_blk rfl _ _ 27 rfl 5 (.int .u8 0) 1 Try.underlying27 Try.infoByte rfl .i64 .i64 k rfl rfl (by omega) (by omega) ?_; intro w1 hb1 hg1 hz1)
    exact ⟨rfl, rfl, hg1, _, rfl, hb1, hW.le⟩
  intro v1
  intro k1 a1 hk1 ha1
  simp only [Nat.reduceAdd] at hk1
  simp only [Act.put, List.setIfInBounds_toArray, List.set_cons_succ, List.set_cons_zero] at ha1
  subst hk1 ha1
  apply Mono.is0
  · kernel_rfl
  · intro W hW
    go_wp2
    refine ⟨rfl, rfl, Grows.refl _, ?_⟩
    unfold Oper.valAt
    go_simp
    rfl
  intro k1 a1 hk1 ha1
  simp only [Nat.reduceAdd] at hk1
  simp only [Act.put, List.setIfInBounds_toArray, List.set_cons_succ, List.set_cons_zero] at ha1
  subst hk1 ha1
  apply Mono.pr0
  · kernel_rfl
  · exact fun v W W' hW ⟨A, n, c, h1, h2⟩ => ⟨A, n, c, h1, h2.grows hW⟩
  · intro W hW 
    go_wp2_with fail
    refine (putBig_any x 8 W (by omega)).mono ?_
    rintro e w1 ⟨A1, n1, c1, hn1, rfl, hg1, ho1⟩
    go_wp2
    exact ⟨rfl, rfl, hg1, A1, n1, c1, rfl, SB.own ho1⟩
  intro v3
  intro k1 a1 hk1 ha1
  simp only [Nat.reduceAdd] at hk1
  simp only [Act.put, List.setIfInBounds_toArray, List.set_cons_succ, List.set_cons_zero] at ha1
  subst hk1 ha1
  refine Mono.done ?_
  intro wm hgm
  simp only [allF, List.drop_succ_cons, List.drop_zero]
  intro g3 g1
  obtain ⟨A1, n1, c1, rfl, hs1⟩ := g3
  obtain ⟨g, rfl, hb, hgg⟩ := g1
  have hn1 : n1 = 8 := by have := hs1.len; rw [putBigF_len] at this; omega
  subst hn1
  have hown := hb.own (base := w.heap.size) hgg (n := k) (by simp) (by unfold maxLen; omega)
  rw [rep_b8] at hown
  have HH := lib_hid (And.intro hown hs1)
  clear hown hs1 hb
  have hsz := hgm.le
  go_wp2_with (at_builtin; refine wpList_append rfl _ _ 27 rfl w.heap.size 5 (.int .u8 0) 1 Try.underlying27 Try.infoByte rfl _ k _ rfl HH.out.1 _ 8 _ _ rfl HH.out.2 (b8_one _) (by omega) (by omega) hsz ?_; intro A2 c2 w2 ho2 hb2 _)
  rw [← List.map_append] at ho2
  have HB := lib_hid (SB.own ho2)
  have hg2 : Grows w w2 := below_trans hgm hb2
  clear ho2 HH hb2
  go_wp2_with fail
  refine (putLittle_any x 8 w2 (by omega)).mono ?_
  rintro e w3 ⟨A3, n3, c3, hn3, rfl, hg3, ho3⟩
  obtain rfl : n3 = 8 := by rw [hn3.out]; exact putLittleF_len x 8
  have HO := lib_hid ho3
  clear hn3 ho3
  have hsz2 := hg3.le
  go_wp2_with (at_builtin; refine wpList_append_zeros rfl _ _ 27 3 rfl w2.heap.size 5 .i64 (.int .u8 0) 1 Try.underlying27 Try.underlying3 Try.infoByte rfl rfl _ 8 _ rfl HO.out k rfl (by omega) (by omega) (by omega) (by omega) hsz2 ?_; intro A4 c4 w4 ho4 hb4 _)
  rw [rep_b8', ← List.map_append] at ho4
  have HL := lib_hid (SB.own ho4)
  have hg4 : Grows w2 w4 := below_trans hg3 hb4
  clear ho4 hb4 HO
  go_wp2_with fail
  refine (CB.out _ _ _ _ _ (HB.out.grows hg4)).mono ?_
  rintro e w5 ⟨rfl, rfl⟩
  go_wp2_with fail
  refine (CL.out _ _ _ _ _ HL.out).mono ?_
  rintro e w5 ⟨rfl, hg5⟩
  have hb5 := (HB.out.grows hg4).grows hg5
  have hr := hb5.grows ((Grows.refl w5).alloc (.cells #[.int .u8 1, .int .u8 2, .int .u8 3] 5))
  have ho := World.ownsRow_lit (base := w5.heap.size) (e := 5) (size := 1) w5 #[.int .u8 1, .int .u8 2, .int .u8 3] 3 (Nat.le_refl _) (by unfold maxLen; omega) rfl
  have HR := lib_hid (And.intro hr ho)
  clear hr ho hb5
  go_wp2_with (at_builtin; refine wpList_append (o := ⟨some 33, _, _, _, _, _⟩) rfl _ _ 27 rfl w5.heap.size 5 (.int .u8 0) 1 Try.underlying27 Try.infoByte rfl _ 3 _ rfl HR.out.2 _ _ _ _ rfl HR.out.1 (b8_one _) (by omega) (by omega) (by simp) ?_; intro A6 c6 w6 ho6 hb6 _)
  rw [lit123, ← List.map_append] at ho6
  have H6 := lib_hid (SB.own ho6)
  have hg6 : Grows w5 w6 := below_trans ((Grows.refl w5).alloc _) hb6
  clear ho6 hb6 HR
  go_wp2_with fail
  refine (CB.out ([1, 2, 3] ++ List.replicate k 0) _ _ _ _ (by rw [List.append_assoc]; exact H6.out)).mono ?_
  rintro e w7 ⟨rfl, rfl⟩
  go_wp2_with fail
  refine (awake_any _).mono ?_
  rintro e w8 ⟨rfl, hg8⟩
  go_wp2
  go_ret
  exact ⟨rfl, ((((hg2.trans hg4).trans hg5).trans hg6).trans hg8)⟩

end Go.Proofs.Ytbajolgfejcecaa
