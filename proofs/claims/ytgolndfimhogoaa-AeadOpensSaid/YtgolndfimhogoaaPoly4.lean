/-
  The walks of poly.Clamp and New.
-/
import Derived.Test.YtgolndfimhogoaaPoly3
import Derived.Test.YtgolndfimhogoaaArrEq
import Derived.Deep.Cut
namespace Go.Proofs.Ytgolndfimhogoaa
open Go Go.RowKit
set_option linter.unusedSimpArgs false


def cl1 : Nat → List UInt8 → List UInt8
  | 0, bs => bs
  | k + 1, bs => (cl1 k bs).set (3 + 4 * k) ((cl1 k bs).getD (3 + 4 * k) 0 &&& 15)
def cl2 : Nat → List UInt8 → List UInt8
  | 0, bs => bs
  | k + 1, bs => (cl2 k bs).set (4 + 4 * k) ((cl2 k bs).getD (4 + 4 * k) 0 &&& 252)
theorem cl1_len (k : Nat) (bs : List UInt8) : (cl1 k bs).length = bs.length := by
  induction k with
  | zero => rfl
  | succ k ih => rw [cl1, List.length_set, ih]
theorem cl2_len (k : Nat) (bs : List UInt8) : (cl2 k bs).length = bs.length := by
  induction k with
  | zero => rfl
  | succ k ih => rw [cl2, List.length_set, ih]
def clampF (bs : List UInt8) : List UInt8 := cl2 3 (cl1 4 bs)
theorem clampF_len (bs : List UInt8) : (clampF bs).length = bs.length := by unfold clampF; rw [cl2_len, cl1_len]

set_option maxRecDepth 100000 in
set_option maxHeartbeats 4000000 in
theorem clamp_any (bs : List UInt8) (hl : bs.length = 16) (w : World) :
    Calls Try.prog 37 #[.agg (bs.map b8).toArray] w fun e w' => e = .returned (.agg ((clampF bs).map b8).toArray) ∧ Grows w w' := by
  obtain ⟨W0, HW0, hW0, hg0⟩ : ∃ W0 : World, Hid (W0 = (w.alloc (.cells (bs.map b8).toArray 56)).alloc (.cells ((List.replicate 16 (0 : UInt8)).map b8).toArray 56)) ∧ W0.heap.size = w.heap.size + 2 ∧ Grows w W0 := ⟨_, lib_hid rfl, by simp, ((Grows.refl w).alloc _).alloc _⟩
  have HB0 : Hid (Blk W0 w.heap.size 56 (bs.map b8).toArray) := by
    unfold Hid; rw [HW0.out]; have := (Blk.new (w) 56 (bs.map b8).toArray).alloc (.cells ((List.replicate 16 (0 : UInt8)).map b8).toArray 56); simpa using this
  have HB1 : Hid (Blk W0 (w.heap.size + 1) 56 ((List.replicate 16 (0 : UInt8)).map b8).toArray) := by
    unfold Hid; rw [HW0.out]; have := Blk.new (w.alloc (.cells (bs.map b8).toArray 56)) 56 ((List.replicate 16 (0 : UInt8)).map b8).toArray; simpa using this
  have bsl := lib_hid hl
  have HW0' := HW0.out
  rw [← zeros16] at HW0'
  clear hl hW0
  go_enter Try.func37, Try.ntmps37
  go_upto_region 1 with fail
  rw [← HW0']
  clear HW0'
  go_wp2_with fail
  go_loopw [3] (fun v wr => ∃ k : Nat, k ≤ 4 ∧ v = .int .i64 ((3 + 4 * k : Nat) : Int) ∧ Grows w wr ∧ Hid (Blk wr (w.heap.size + 1) 56 ((List.replicate 16 (0 : UInt8)).map b8).toArray) ∧ Hid (Blk wr w.heap.size 56 ((cl1 k bs).map b8).toArray)) (fun v _ => 20 - (intOf v).toNat)
  case atStart => exact ⟨0, by omega, rfl, hg0, HB1, HB0⟩
  case round =>
    obtain ⟨k, hk, rfl, hgr, hZ, hC⟩ := hrel
    by_cases hlt : k < 4
    · obtain ⟨i, Hi, hi, hi16⟩ : ∃ i : Nat, Hid (3 + 4 * k = i) ∧ i = i ∧ i < 16 := ⟨_, lib_hid rfl, rfl, by omega⟩
      rw [Hi.out]
      obtain ⟨cur, Hcur, curl⟩ : ∃ c, Hid (cl1 k bs = c) ∧ Hid (c.length = 16) := ⟨_, lib_hid rfl, by unfold Hid; rw [cl1_len, bsl.out]⟩
      rw [Hcur.out] at hC
      obtain ⟨x, Hx⟩ : ∃ x, Hid (cur.getD i 0 = x) := ⟨_, lib_hid rfl⟩
      have cI : wr.cell? ⟨w.heap.size, i, none⟩ = some (b8 x) := by
        rw [hC.out.cell, ← Hx.out, List.getElem?_toArray, List.getElem?_map, List.getElem?_eq_getElem (by rw [curl.out]; exact hi16), List.getD_eq_getElem?_getD, List.getElem?_eq_getElem (by rw [curl.out]; exact hi16)]
        rfl
      have fI := hC.out.frozen i
      obtain ⟨y, Hy, hy⟩ : ∃ y : UInt8, Hid (x &&& 15 = y) ∧ bits .and .u8 (x.toNat : Int) 15 = (y.toNat : Int) := ⟨_, lib_hid rfl, u8_and x 15⟩
      have hB2 : Blk (wr.setCell ⟨w.heap.size, i, none⟩ (b8 y)) w.heap.size 56 ((cur.set i y).map b8).toArray := by
        have := hC.out.set i (b8 y)
        rw [List.setIfInBounds_toArray, ← List.map_set] at this
        exact this
      have HC2 : Hid (Blk (wr.setCell ⟨w.heap.size, i, none⟩ (b8 y)) w.heap.size 56 ((cl1 (k + 1) bs).map b8).toArray) := by
        unfold Hid; rw [cl1, Hcur.out, Hi.out, Hx.out, Hy.out]; exact hB2
      have HZ2 : Hid (Blk (wr.setCell ⟨w.heap.size, i, none⟩ (b8 y)) (w.heap.size + 1) 56 ((List.replicate 16 (0 : UInt8)).map b8).toArray) := hZ.out.far (p := ⟨w.heap.size, i, none⟩) (by simp) _
      have hgr2 : Grows w (wr.setCell ⟨w.heap.size, i, none⟩ (b8 y)) := hgr.setCell (p := ⟨w.heap.size, i, none⟩) (Nat.le_refl _) _
      have hin : (i : Int) < 16 := by omega
      clear hB2 hC hZ hgr hi
      go_wp2
      go_roundw
      case rel => exact ⟨k + 1, by omega, by have := Hi.out; congr 1; omega, hgr2, HZ2, HC2⟩
      case measure => simp [intOf]; omega
    · have Hk : Hid (k = 4) := by unfold Hid; omega
      obtain ⟨i, Hi, hi16⟩ : ∃ i : Nat, Hid (3 + 4 * k = i) ∧ ¬ (i : Int) < 16 := ⟨_, lib_hid rfl, by omega⟩
      rw [Hi.out]
      have hC2 : Hid (Blk wr w.heap.size 56 ((cl2 0 (cl1 4 bs)).map b8).toArray) := by have := hC; rw [Hk.out] at this; exact this
      clear hC
      have hC := hC2
      clear hC2 Hi
      go_wp2_with fail
      obtain ⟨wo, ewo⟩ : ∃ wo : World, wo = wr := ⟨_, rfl⟩
      subst ewo
      go_loopw [4] (fun v wr => ∃ k : Nat, k ≤ 3 ∧ v = .int .i64 ((4 + 4 * k : Nat) : Int) ∧ Grows w wr ∧ Hid (Blk wr (w.heap.size + 1) 56 ((List.replicate 16 (0 : UInt8)).map b8).toArray) ∧ Hid (Blk wr w.heap.size 56 ((cl2 k (cl1 4 bs)).map b8).toArray)) (fun v _ => 20 - (intOf v).toNat)
      case atStart => exact ⟨0, by omega, rfl, hgr, hZ, hC⟩
      case round =>
        clear hgr hZ hC
        obtain ⟨k, hk, rfl, hgr, hZ, hC⟩ := hrel
        by_cases hlt : k < 3
        · obtain ⟨i, Hi, hi, hi16⟩ : ∃ i : Nat, Hid (4 + 4 * k = i) ∧ i = i ∧ i < 16 := ⟨_, lib_hid rfl, rfl, by omega⟩
          rw [Hi.out]
          obtain ⟨cur, Hcur, curl⟩ : ∃ c, Hid (cl2 k (cl1 4 bs) = c) ∧ Hid (c.length = 16) := ⟨_, lib_hid rfl, by unfold Hid; rw [cl2_len, cl1_len, bsl.out]⟩
          rw [Hcur.out] at hC
          obtain ⟨x, Hx⟩ : ∃ x, Hid (cur.getD i 0 = x) := ⟨_, lib_hid rfl⟩
          have cI : wr.cell? ⟨w.heap.size, i, none⟩ = some (b8 x) := by
            rw [hC.out.cell, ← Hx.out, List.getElem?_toArray, List.getElem?_map, List.getElem?_eq_getElem (by rw [curl.out]; exact hi16), List.getD_eq_getElem?_getD, List.getElem?_eq_getElem (by rw [curl.out]; exact hi16)]
            rfl
          have fI := hC.out.frozen i
          obtain ⟨y, Hy, hy⟩ : ∃ y : UInt8, Hid (x &&& 252 = y) ∧ bits .and .u8 (x.toNat : Int) 252 = (y.toNat : Int) := ⟨_, lib_hid rfl, u8_and x 252⟩
          have hB2 : Blk (wr.setCell ⟨w.heap.size, i, none⟩ (b8 y)) w.heap.size 56 ((cur.set i y).map b8).toArray := by
            have := hC.out.set i (b8 y)
            rw [List.setIfInBounds_toArray, ← List.map_set] at this
            exact this
          have HC2 : Hid (Blk (wr.setCell ⟨w.heap.size, i, none⟩ (b8 y)) w.heap.size 56 ((cl2 (k + 1) (cl1 4 bs)).map b8).toArray) := by
            unfold Hid; rw [cl2, Hcur.out, Hi.out, Hx.out, Hy.out]; exact hB2
          have HZ2 : Hid (Blk (wr.setCell ⟨w.heap.size, i, none⟩ (b8 y)) (w.heap.size + 1) 56 ((List.replicate 16 (0 : UInt8)).map b8).toArray) := hZ.out.far (p := ⟨w.heap.size, i, none⟩) (by simp) _
          have hgr2 : Grows w (wr.setCell ⟨w.heap.size, i, none⟩ (b8 y)) := hgr.setCell (p := ⟨w.heap.size, i, none⟩) (Nat.le_refl _) _
          have hin : (i : Int) < 16 := by omega
          clear hB2 hC hZ hgr hi
          go_wp2
          go_roundw
          case rel => exact ⟨k + 1, by omega, by have := Hi.out; congr 1; omega, hgr2, HZ2, HC2⟩
          case measure => simp [intOf]; omega
        · have Hk : Hid (k = 3) := by unfold Hid; omega
          obtain ⟨i, Hi, hi16⟩ : ∃ i : Nat, Hid (4 + 4 * k = i) ∧ ¬ (i : Int) < 16 := ⟨_, lib_hid rfl, by omega⟩
          rw [Hi.out]
          obtain ⟨res, Hres, hrl, hra⟩ : ∃ r : Array Value, Hid (((clampF bs).map b8).toArray = r) ∧ r.size = 16 ∧ r.all (·.oneCell') = true := ⟨_, lib_hid rfl, by simp [clampF_len, bsl.out], cells_all _⟩
          have hR : Hid (Blk wr w.heap.size 56 res) := by unfold Hid; rw [← Hres.out]; unfold clampF; have := hC; rw [Hk.out] at this; exact this
          clear hC Hi
          go_wp2_with (first
            | (refine wpList_load_blk rfl _ _ rfl w.heap.size rfl 56 res _ hR.out Try.underlying56 rfl (by rw [Try.size16, hrl]) ?_)
            | (refine wpList_store_blk rfl _ _ _ rfl (w.heap.size + 1) res rfl rfl 56 _ hZ.out (by rw [Try.size16, hrl]) (by simp [hrl]) hra (w.heap.size + 1) wr (Below.refl _ _) (Nat.le_refl _) ?_; intro w5 HR6 hb5 hgr5))
          refine bodyPost_ret (results_cell_row rfl _ _ (w.heap.size + 1) _ res _ _ rfl HR6 Try.underlying56 rfl (by rw [Try.size16, hrl])) rfl ?_
          exact ⟨by rw [Hres.out], Below.trans hgr (hb5.mono (by omega))⟩


def kr0 (key : List UInt8) : UInt64 := halfA (clampF (key.take 16))
def kr1 (key : List UInt8) : UInt64 := halfB (clampF (key.take 16))
def ks0 (key : List UInt8) : UInt64 := halfA (key.drop 16)
def ks1 (key : List UInt8) : UInt64 := halfB (key.drop 16)
theorem run_arrayAt {Pr : Program} {arr e : TypeId} {m : Nat} (h : Pr.underlying arr = some (.array m e)) (A : Option Addr) (n c : Nat) (hn : m ≤ n) (W : World) : Sem.run Pr (Instr.arrayAt arr (.slice A n c)) W = .ok (.pointer A) W := by
  unfold Instr.arrayAt
  rw [Sem.run_bind, run_underlying h W]
  simp only [Result.andThen_ok]
  rw [if_neg (by omega)]
  rfl
theorem Try.size32k : (Try.prog.info? 37).map (·.size) = some 32 := by kernel_rfl
set_option maxRecDepth 100000 in
set_option maxHeartbeats 4000000 in
theorem pnew_any (key : List UInt8) (hl : key.length = 32) (w : World) :
    Calls Try.prog 25 #[.agg (key.map b8).toArray] w fun e w' => ∃ g, e = .returned (.pointer (some ⟨g, 0, none⟩)) ∧ Grows w w' ∧ PSt w' w.heap.size g none (kr0 key) (kr1 key) (ks0 key) (ks1 key) [] := by
  obtain ⟨W0, HW0, hW0, hg0⟩ : ∃ W0 : World, Hid (W0 = w.alloc (.cells (key.map b8).toArray 37)) ∧ W0.heap.size = w.heap.size + 1 ∧ Grows w W0 := ⟨_, lib_hid rfl, by simp, (Grows.refl w).alloc _⟩
  have HB0 : Hid (Blk W0 w.heap.size 37 (key.map b8).toArray) := by
    unfold Hid; rw [HW0.out]; have := Blk.new (w) 37 (key.map b8).toArray; simpa using this
  obtain ⟨k1, Hk1, k1l⟩ : ∃ x, Hid (key.take 16 = x) ∧ Hid (x.length = 16) := ⟨_, lib_hid rfl, by unfold Hid; rw [List.length_take, hl]; rfl⟩
  obtain ⟨k2, Hk2, k2l⟩ : ∃ x, Hid (key.drop 16 = x) ∧ Hid (x.length = 16) := ⟨_, lib_hid rfl, by unfold Hid; rw [List.length_drop, hl]⟩
  obtain ⟨cl, Hcl, cll⟩ : ∃ x, Hid (clampF k1 = x) ∧ x.length = 16 := ⟨_, lib_hid rfl, by rw [clampF_len, k1l.out]⟩
  obtain ⟨e0, He0⟩ : ∃ x, Hid (halfA cl = x) := ⟨_, lib_hid rfl⟩
  obtain ⟨e1, He1⟩ : ∃ x, Hid (halfB cl = x) := ⟨_, lib_hid rfl⟩
  obtain ⟨d0, Hd0⟩ : ∃ x, Hid (halfA k2 = x) := ⟨_, lib_hid rfl⟩
  obtain ⟨d1, Hd1⟩ : ∃ x, Hid (halfB k2 = x) := ⟨_, lib_hid rfl⟩
  have HQ : Hid (kr0 key = e0 ∧ kr1 key = e1 ∧ ks0 key = d0 ∧ ks1 key = d1) := by
    unfold Hid kr0 kr1 ks0 ks1
    rw [Hk1.out, Hk2.out, Hcl.out, He0.out, He1.out, Hd0.out, Hd1.out]
    exact ⟨rfl, rfl, rfl, rfl⟩
  have HR1 : Hid (Row W0 (some ⟨w.heap.size, 0, none⟩) 16 32 (k1.map b8)) := by
    have := HB0.out.row (o := 0) (n := 16) (c := 32) (by omega) (by simp [hl]) (by unfold maxLen; omega)
    unfold Hid; rw [← Hk1.out]
    simpa [List.map_take] using this
  have HR2 : Hid (SB W0 (some ⟨w.heap.size, 16, none⟩) 16 16 k2) := by
    have := HB0.out.part8 16 16 16 (Nat.le_refl _) (by omega) (by unfold maxLen; omega)
    rw [Hk2.out, List.take_of_length_le (by rw [k2l.out]; exact Nat.le_refl _)] at this
    exact this
  obtain ⟨res, Hres, hrl, hra⟩ : ∃ r : Array Value, Hid ((cl.map b8).toArray = r) ∧ r.size = 16 ∧ r.all (·.oneCell') = true := ⟨_, lib_hid rfl, by simp [cll], cells_all _⟩
  have Hclamp : Hid (∀ W, Calls Try.prog 37 #[.agg (k1.map b8).toArray] W fun e w' => e = .returned (.agg res) ∧ Grows W w') := fun W => by
    rw [← Hres.out, ← Hcl.out]; exact clamp_any k1 k1l.out W
  have HW0' := HW0.out
  have Hcll := lib_hid cll
  clear hl cll
  go_enter Try.func25, Try.ntmps25
  go_upto_region 1 with fail
  rw [← HW0']
  clear HW0'
  have hat := fun W => run_arrayAt (Pr := Try.prog) Try.underlying56 (some ⟨w.heap.size, 0, none⟩) 16 32 (by omega) W
  go_wp2_with (refine wpList_load_part rfl _ _ rfl ⟨w.heap.size, 0, none⟩ rfl 16 32 (k1.map b8) _ HR1.out Try.underlying56 rfl Try.size16 ?_)
  refine (Hclamp.out W0).mono ?_
  rintro e w1 ⟨rfl, hg1⟩
  clear hat
  obtain ⟨g3, Hg3⟩ : ∃ g, Hid (w1.heap.size = g) := ⟨_, lib_hid rfl⟩
  go_upto_region 2 with (refine wpList_store_blk rfl _ _ _ rfl w1.heap.size res rfl rfl 56 _ (Blk.new _ _ _) (by rw [Try.size16, hrl]) (by simp [hrl]) hra w1.heap.size w1 ((Grows.refl w1).alloc _) (Nat.le_refl _) ?_; intro w2 H7 hb2 hg2)
  rw [Hg3.out] at H7
  rw [Hg3.out]
  have hg02 : Grows W0 w2 := hg1.trans hb2
  have HC : Hid (SB w2 (some ⟨g3, 0, none⟩) 16 16 cl) := by
    have H8 : Blk w2 g3 56 (cl.map b8).toArray := by rw [Hres.out]; exact H7
    have := H8.part8 0 16 16 (Nat.le_refl _) (by rw [Hcll.out]; omega) (by unfold maxLen; omega)
    unfold Hid
    simpa [List.take_of_length_le (show cl.length ≤ 16 by rw [Hcll.out]; omega)] using this
  have HD : Hid (SB w2 (some ⟨w.heap.size, 16, none⟩) 16 16 k2) := HR2.out.grows hg02
  have hgw := hg0.trans hg02
  clear H7 hb2 hg2 hg1 hg02
  apply wp_region_mono 5 ((.is _, []) :: (.is (pV e0 e1), []) :: (.is _, []) :: (.is (pV d0 d1), []) :: (.is _, []) :: []) (by kernel_rfl) (by kernel_rfl)
  apply Mono.is0
  · kernel_rfl
  · intro W hW
    go_wp2
    refine ⟨rfl, rfl, Grows.refl _, ?_⟩
    unfold Oper.valAt
    go_simp
    rfl
  intro k1 a1 hk1 ha1
  simp only [Nat.reduceAdd] at hk1
  simp only [Act.put, List.setIfInBounds_toArray, List.set_cons_succ, List.set_cons_zero] at ha1
  subst hk1 ha1
  apply Mono.is0
  · kernel_rfl
  · intro W hW 
    go_wp2_with fail
    refine (half_any _ 16 16 _ W (HC.out.grows hW) (by omega)).mono ?_
    rintro e w1 ⟨rfl, hg1⟩
    rw [He0.out, He1.out]
    go_wp2
    exact ⟨rfl, rfl, hg1, rfl⟩
  intro k1 a1 hk1 ha1
  simp only [Nat.reduceAdd] at hk1
  simp only [Act.put, List.setIfInBounds_toArray, List.set_cons_succ, List.set_cons_zero] at ha1
  subst hk1 ha1
  apply Mono.is0
  · kernel_rfl
  · intro W hW
    go_wp2
    refine ⟨rfl, rfl, Grows.refl _, ?_⟩
    unfold Oper.valAt
    go_simp
    rfl
  intro k1 a1 hk1 ha1
  simp only [Nat.reduceAdd] at hk1
  simp only [Act.put, List.setIfInBounds_toArray, List.set_cons_succ, List.set_cons_zero] at ha1
  subst hk1 ha1
  apply Mono.is0
  · kernel_rfl
  · intro W hW 
    go_wp2_with fail
    refine (half_any _ 16 16 _ W (HD.out.grows hW) (by omega)).mono ?_
    rintro e w1 ⟨rfl, hg1⟩
    rw [Hd0.out, Hd1.out]
    go_wp2
    exact ⟨rfl, rfl, hg1, rfl⟩
  intro k1 a1 hk1 ha1
  simp only [Nat.reduceAdd] at hk1
  simp only [Act.put, List.setIfInBounds_toArray, List.set_cons_succ, List.set_cons_zero] at ha1
  subst hk1 ha1
  apply Mono.is0
  · kernel_rfl
  · intro W hW
    go_wp2
    refine ⟨rfl, rfl, Grows.refl _, ?_⟩
    unfold Oper.valAt
    go_simp
    rfl
  intro k1 a1 hk1 ha1
  simp only [Nat.reduceAdd] at hk1
  simp only [Act.put, List.setIfInBounds_toArray, List.set_cons_succ, List.set_cons_zero] at ha1
  subst hk1 ha1
  refine Mono.done ?_
  intro wm hgm
  simp only [allF, List.drop_succ_cons, List.drop_zero]
  have hgw2 := hgw.trans hgm
  go_wp2
  go_ret
  refine ⟨wm.heap.size, rfl, hgw2.alloc _, hgw2.le, none, 0, 0, ?_, OwnAt.nil _ _, rfl, by intro h; cases h⟩
  rw [HQ.out.1, HQ.out.2.1, HQ.out.2.2.1, HQ.out.2.2.2]
  exact Blk.new _ _ _

end Go.Proofs.Ytgolndfimhogoaa
