/-
  The walk of bits.Count: a number of 128 bits, and some more.
-/
import Derived.Test.YthcmdjaccjghjaaBits3
import Derived.Test.YthcmdjaccjghjaaArr16
import Derived.Laws.Externs
namespace Go.Proofs.Ythcmdjaccjghjaa
open Go Go.RowKit

def lowF (bs : List UInt8) (n : UInt64) : UInt64 := bigF (bs.drop 8) + n
def highF (bs : List UInt8) (n : UInt64) : UInt64 := bigF (bs.take 8) + UInt64.ofNat (((bigF (bs.drop 8)).toNat + n.toNat) / 18446744073709551616)
def countF (bs : List UInt8) (n : UInt64) : List UInt8 := putBigF (highF bs n) 8 ++ putBigF (lowF bs n) 8

theorem run_Add64 (x y : UInt64) (w : World) : Sem.run Try.prog (callFunc 43 #[.int .u64 x.toNat, .int .u64 y.toNat, .int .u64 0]) w =
    .ok (.value (.tuple #[.int .u64 (x + y).toNat, .int .u64 (UInt64.ofNat ((x.toNat + y.toNat) / 18446744073709551616)).toNat])) w := by
  have hx := u64_lt x
  have hy := u64_lt y
  rw [run_callFunc_extern Try.func43 (by kernel_rfl) (by kernel_rfl) (by kernel_rfl) (e := add64Entry) (by kernel_rfl)]
  rw [run_add64 (P := Try.prog) (x.toNat : Int) (y.toNat : Int) 0 (by omega) (by omega) (by omega) (by omega)]
  have e1 : ((x.toNat : Int) + y.toNat + 0) % 18446744073709551616 = ((x + y).toNat : Int) := by rw [UInt64.toNat_add]; omega
  have e2 : ((x.toNat : Int) + y.toNat + 0) / 18446744073709551616 = ((UInt64.ofNat ((x.toNat + y.toNat) / 18446744073709551616)).toNat : Int) := by rw [UInt64.toNat_ofNat']; omega
  simp only [Result.andThen, e1, e2]

set_option maxRecDepth 100000 in
set_option maxHeartbeats 1000000 in
theorem count_any (bs : List UInt8) (hb : bs.length = 16) (n : UInt64) (w : World) :
    Calls Try.prog 17 #[.agg (bs.map b8).toArray, .int .u64 n.toNat] w fun e w' => e = .returned (.agg ((countF bs n).map b8).toArray) ∧ Grows w w' := by
  obtain ⟨lo, hlo⟩ : ∃ lo, lowF bs n = lo := ⟨_, rfl⟩
  obtain ⟨hi, hhi⟩ : ∃ hi, highF bs n = hi := ⟨_, rfl⟩
  obtain ⟨cy, hcy⟩ : ∃ cy, UInt64.ofNat (((bigF (bs.drop 8)).toNat + n.toNat) / 18446744073709551616) = cy := ⟨_, rfl⟩
  have HC : Hid (countF bs n = putBigF hi 8 ++ putBigF lo 8) := by unfold Hid countF; rw [hlo, hhi]
  have hadd := run_Add64 (bigF (bs.drop 8)) n
  rw [hcy, show bigF (bs.drop 8) + n = lo from hlo] at hadd
  have hsum : IntKind.u64.wrap (((bigF (bs.take 8)).toNat : Int) + (cy.toNat : Int)) = (hi.toNat : Int) := by
    rw [u64_wrap_add, ← hcy, ← hhi]; rfl
  have Hlen := lib_hid hb
  clear hlo hhi hb hcy
  obtain ⟨W0, HW0, hW0, hg0⟩ : ∃ W0 : World, Hid (W0 = (w.alloc (.cells (bs.map b8).toArray 23)).alloc (.cells #[.int .u8 0, .int .u8 0, .int .u8 0, .int .u8 0, .int .u8 0, .int .u8 0, .int .u8 0, .int .u8 0, .int .u8 0, .int .u8 0, .int .u8 0, .int .u8 0, .int .u8 0, .int .u8 0, .int .u8 0, .int .u8 0] 23)) ∧ W0.heap.size = w.heap.size + 2 ∧ Grows w W0 := ⟨_, lib_hid rfl, by simp, ((Grows.refl w).alloc _).alloc _⟩
  have HA : Hid (Blk W0 w.heap.size 23 (bs.map b8).toArray) := by unfold Hid; rw [HW0.out]; exact (Blk.new _ _ _).alloc _
  have HR : Hid (Blk W0 (w.heap.size + 1) 23 ((List.replicate 16 (0 : UInt8)).map b8).toArray) := by
    unfold Hid; rw [HW0.out, zeros16]; have := Blk.new (w.alloc (.cells (bs.map b8).toArray 23)) 23 ((List.replicate 16 (0 : UInt8)).map b8).toArray; simpa using this
  have HS8 : Hid (SB W0 (some ⟨w.heap.size, 8, none⟩) 8 8 (bs.drop 8)) := by
    have := HA.out.row (o := 8) (n := 8) (c := 8) (Nat.le_refl _) (by simp [Hlen.out]) (by unfold maxLen; omega)
    rw [List.take_of_length_le (by simp [Hlen.out])] at this
    unfold Hid SB
    rw [List.map_drop]
    exact this
  have HS0 : Hid (SB W0 (some ⟨w.heap.size, 0, none⟩) 8 16 (bs.take 8)) := by
    have := HA.out.row (o := 0) (n := 8) (c := 16) (by omega) (by simp [Hlen.out]) (by unfold maxLen; omega)
    unfold Hid SB
    simpa [List.map_take] using this
  go_enter Try.func17, Try.ntmps17
  go_wp2_with fail
  rw [← HW0.out]
  refine (big_any _ 8 8 _ _ HS8.out).mono ?_
  rintro e w1 ⟨rfl, rfl⟩
  go_wp2_with fail
  refine (big_any _ 8 16 _ _ HS0.out).mono ?_
  rintro e w1 ⟨rfl, rfl⟩
  go_wp2_with fail
  obtain ⟨W1, HW1, hW1, hg1⟩ : ∃ W1 : World, Hid (W1 = W0.alloc (.cells #[.int .u8 0, .int .u8 0, .int .u8 0, .int .u8 0, .int .u8 0, .int .u8 0, .int .u8 0, .int .u8 0, .int .u8 0, .int .u8 0, .int .u8 0, .int .u8 0, .int .u8 0, .int .u8 0, .int .u8 0, .int .u8 0] 23)) ∧ W1.heap.size = w.heap.size + 3 ∧ Grows W0 W1 := ⟨_, lib_hid rfl, by simp [hW0], (Grows.refl W0).alloc _⟩
  rw [← HW1.out]
  have HO : Hid (Blk W1 (w.heap.size + 2) 23 ((List.replicate 16 (0 : UInt8)).map b8).toArray) := by
    unfold Hid; rw [HW1.out, zeros16]; have := Blk.new W0 23 ((List.replicate 16 (0 : UInt8)).map b8).toArray; rw [hW0] at this; exact this
  have HR1 : Hid (Blk W1 (w.heap.size + 1) 23 ((List.replicate 16 (0 : UInt8)).map b8).toArray) := HR.out.grows hg1
  have hwW := hg0.trans hg1
  clear HA HR HS8 HS0 hadd hsum
  apply wp_region_mono 3 ((.is _, []) :: (.is _, []) :: (.pr (fun v W => ∃ A n c, v = .slice A n c ∧ SB W A n c (putBigF hi 8)), []) :: []) (by kernel_rfl) (by kernel_rfl)
  iterate 2
    apply Mono.is0
    · kernel_rfl
    · intro W hW
      go_wp2
      refine ⟨rfl, rfl, Grows.refl _, ?_⟩
      unfold Oper.valAt
      go_simp
      rfl
    intro k1 a1 hk1 ha1
    simp only [Nat.reduceAdd] at hk1
    simp only [Act.put, List.setIfInBounds_toArray, List.set_cons_succ, List.set_cons_zero] at ha1
    subst hk1 ha1
  apply Mono.pr0
  · kernel_rfl
  · exact fun v W W' hW ⟨A, n, c, h1, h2⟩ => ⟨A, n, c, h1, h2.grows hW⟩
  · intro W hW 
    go_wp2_with fail
    refine (putBig_any hi 8 W (by omega)).mono ?_
    rintro e w1 ⟨A1, n1, c1, hn1, rfl, hg1, ho1⟩
    go_wp2
    exact ⟨rfl, rfl, hg1, A1, n1, c1, rfl, SB.own ho1⟩
  intro v2
  intro k1 a1 hk1 ha1
  simp only [Nat.reduceAdd] at hk1
  simp only [Act.put, List.setIfInBounds_toArray, List.set_cons_succ, List.set_cons_zero] at ha1
  subst hk1 ha1
  refine Mono.done ?_
  intro wm hgm
  simp only [allF, List.drop_succ_cons, List.drop_zero]
  intro g2
  obtain ⟨A2, n2, c2, rfl, hs2⟩ := g2
  obtain rfl : n2 = 8 := by have := hs2.len; rw [putBigF_len'] at this; omega
  have HS2 := lib_hid hs2
  have HO2 := lib_hid (HO.out.grows hgm)
  have HR2 := lib_hid (HR1.out.grows hgm)
  have hb2 : Below (w.heap.size + 2) wm wm := Below.refl _ _
  clear hs2
  go_wp2_with (refine wpList_copy_blk rfl _ _ 26 26 rfl 5 Try.underlying26 Try.sizeByte (w.heap.size + 2) 0 16 16 rfl A2 8 c2 rfl _ 23 HO2.out _ HS2.out (by omega) (by simp) (b8_one _) (w.heap.size + 2) wm hb2 (Nat.le_refl _) ?_; intro w3 HB3 hb3)
  obtain ⟨mid, hmid, hml⟩ : ∃ mid, Hid (mid = splice (List.replicate 16 (0 : UInt8)) 0 (putBigF hi 8)) ∧ mid.length = 16 := ⟨_, lib_hid rfl, by simp [splice, putBigF_len']⟩
  have HB3' : Hid (Blk w3 (w.heap.size + 2) 23 (mid.map b8).toArray) := by unfold Hid; rw [hmid.out, ← splice_map]; exact HB3
  clear HB3
  have HR3 := lib_hid (Blk.below HR2.out hb3 (by omega))
  simp only [Act.put, List.setIfInBounds_toArray, List.set_cons_succ, List.set_cons_zero]
  apply wp_region_mono 3 ((.is _, []) :: (.is _, []) :: (.pr (fun v W => ∃ A n c, v = .slice A n c ∧ SB W A n c (putBigF lo 8)), []) :: []) (by kernel_rfl) (by kernel_rfl)
  iterate 2
    apply Mono.is0
    · kernel_rfl
    · intro W hW
      go_wp2
      refine ⟨rfl, rfl, Grows.refl _, ?_⟩
      unfold Oper.valAt
      go_simp
      rfl
    intro k1 a1 hk1 ha1
    simp only [Nat.reduceAdd] at hk1
    simp only [Act.put, List.setIfInBounds_toArray, List.set_cons_succ, List.set_cons_zero] at ha1
    subst hk1 ha1
  apply Mono.pr0
  · kernel_rfl
  · exact fun v W W' hW ⟨A, n, c, h1, h2⟩ => ⟨A, n, c, h1, h2.grows hW⟩
  · intro W hW 
    go_wp2_with fail
    refine (putBig_any lo 8 W (by omega)).mono ?_
    rintro e w1 ⟨A1, n1, c1, hn1, rfl, hg1, ho1⟩
    go_wp2
    exact ⟨rfl, rfl, hg1, A1, n1, c1, rfl, SB.own ho1⟩
  intro v2
  intro k1 a1 hk1 ha1
  simp only [Nat.reduceAdd] at hk1
  simp only [Act.put, List.setIfInBounds_toArray, List.set_cons_succ, List.set_cons_zero] at ha1
  subst hk1 ha1
  refine Mono.done ?_
  intro wn hgn
  simp only [allF, List.drop_succ_cons, List.drop_zero]
  intro g2
  obtain ⟨A3, n3, c3, rfl, hs3⟩ := g2
  obtain rfl : n3 = 8 := by have := hs3.len; rw [putBigF_len'] at this; omega
  have HS3 := lib_hid hs3
  have HO3 := lib_hid (HB3'.out.grows hgn)
  have HR4 := lib_hid (HR3.out.grows hgn)
  have hb4 : Below (w.heap.size + 2) wn wn := Below.refl _ _
  clear hs3
  have HF : Hid (splice (mid.map b8) 8 ((putBigF lo 8).map b8) = (countF bs n).map b8) := by
    unfold Hid; rw [HC.out, splice_map, hmid.out, splice_high _ _ (putBigF_len' _ _) (putBigF_len' _ _)]
  have hcl : ((countF bs n).map b8).toArray.size = 16 := by rw [HC.out]; simp [putBigF_len']
  obtain ⟨res, hres⟩ : ∃ res, Hid (((countF bs n).map b8).toArray = res) := ⟨_, lib_hid rfl⟩
  rw [hres.out] at hcl
  have hca : res.all (·.oneCell') = true := by rw [← hres.out]; exact cells_all _
  go_wp2_with (first
    | (refine wpList_copy_blk rfl _ _ 26 26 rfl 5 Try.underlying26 Try.sizeByte (w.heap.size + 2) 8 8 8 rfl A3 8 c3 rfl _ 23 HO3.out _ HS3.out (by omega) (by simp [hml]) (b8_one _) (w.heap.size + 2) wn hb4 (Nat.le_refl _) ?_; intro w4 HB4 hb4; rw [HF.out, hres.out] at HB4; have HR5 := Blk.below HR4.out hb4 (by omega))
    | (refine wpList_load_blk rfl _ _ rfl (w.heap.size + 2) rfl _ res _ HB4 Try.underlying23 rfl (by rw [Try.size16, hcl]) ?_)
    | (refine wpList_store_blk rfl _ _ _ rfl (w.heap.size + 1) res rfl rfl _ _ HR5 (by rw [Try.size16, hcl]) (by simp [hcl]) hca (w.heap.size + 1) wn (hb4.mono (by omega)) (Nat.le_refl _) ?_; intro w5 HR6 hb5 hgr5))
  refine bodyPost_ret (results_cell_row rfl _ _ (w.heap.size + 1) _ res _ _ rfl HR6 Try.underlying23 rfl (by rw [Try.size16, hcl])) rfl ?_
  refine ⟨by rw [hres.out], ?_⟩
  unfold Grows
  have q1 : W1.heap.size ≤ wm.heap.size := hgm.size
  have q2 : wm.heap.size ≤ w3.heap.size := hb3.size
  have q3 : Below w.heap.size W1 wm := Below.mono hgm (by omega)
  have q4 : Below w.heap.size wm w3 := Below.mono hb3 (by omega)
  have q5 : Below w.heap.size w3 wn := Below.mono hgn (by omega)
  have q6 : Below w.heap.size wn w5 := Below.mono hb5 (by omega)
  exact Below.trans hwW (q3.trans (q4.trans (q5.trans q6)))

end Go.Proofs.Ythcmdjaccjghjaa
