/-
  The walks of palfreyref05.carried and Clamp.
-/
import Derived.Test.YtilgkadochhkjaaPolyW
import Derived.Deep.Cut
namespace Go.Proofs.Ytilgkadochhkjaa
open Go Go.RowKit
set_option linter.unusedSimpArgs false

theorem run_alloc_arr {P : Program} {t : TypeId} {vs : Array Value} (h : (P.info? t).bind (·.zero) = some (.agg vs)) (w : World) :
    Sem.run P (Instr.alloc t true (.tuple #[])) w = .ok (.pointer (some ⟨w.heap.size, 0, none⟩)) (w.alloc (.cells vs t)) := by
  obtain ⟨i, hi, hz⟩ := Option.bind_eq_some_iff.1 h
  unfold Instr.alloc zeroValue newVar
  simp only [Sem.run_bind, Sem.run_pure]
  simp [hi, hz, typeInfo, Sem.run_bind, Result.andThen, newRow, Value.cells]
theorem wpList_alloc_arr {P : Program} {w : World} {ops : Array Oper} {rest : List Oper} {o : Oper} {a : Act} {Q : Exit → Act → World → Prop} (hgd : Region.wanted o (yielded ops a.tmps) = true) (t : TypeId) (ho : o.op = .alloc t)
    (cells : Array Value) (hz : (P.info? t).bind (·.zero) = some (.agg cells)) (h : wpList P ops Q rest (a.put o.dst (.pointer (some ⟨w.heap.size, 0, none⟩))) (w.alloc (.cells cells t))) : wpList P ops Q (o :: rest) a w := by
  refine wpList_step fun K hK => ?_
  rw [if_pos hgd]
  have hrun := run_alloc_arr hz w
  unfold Oper.wp execOp
  simp only [ho, Sem.run_bind, Sem.run_pure, Result.andThen_ok, hrun]
  exact hK _ _ h
def iL (p : List Nat) : Array Value := (p.map (fun n : Nat => Value.int .i64 (n : Int))).toArray
theorem iL_size (p : List Nat) : (iL p).size = p.length := by simp [iL]
theorem iL_all (p : List Nat) : (iL p).all (·.oneCell') = true := by
  unfold iL
  rw [List.all_toArray, List.all_map, List.all_eq_true]
  intro x _
  rfl
set_option maxRecDepth 100000 in
theorem zero40 : (Try.prog.info? 40).bind (·.zero) = some (.agg (iL (List.replicate 40 0))) := by kernel_rfl
theorem Try.size40 : (Try.prog.info? 40).map (·.size) = some 40 := by kernel_rfl
theorem cellL {w : World} {g : Nat} {t : TypeId} {p : List Nat} (h : Blk w g t (iL p)) (i : Nat) (hi : i < p.length) : w.cell? ⟨g, i, none⟩ = some (.int .i64 ((p.getD i 0 : Nat) : Int)) := by
  rw [h.cell, iL, List.getElem?_toArray, List.getElem?_map, List.getElem?_eq_getElem hi, List.getD_eq_getElem?_getD, List.getElem?_eq_getElem hi]
  rfl
theorem blk_setL {w : World} {g : Nat} {t : TypeId} {p : List Nat} (h : Blk w g t (iL p)) (i n : Nat) : Blk (w.setCell ⟨g, i, none⟩ (.int .i64 (n : Int))) g t (iL (p.set i n)) := by
  have := h.set i (.int .i64 (n : Int))
  rw [iL, List.setIfInBounds_toArray] at this
  rw [iL, List.map_set]
  exact this
theorem carA_bd (p : List Nat) (hb : ∀ j, p.getD j 0 ≤ 100000000) : ∀ i, i ≤ p.length → (carA p i).2 ≤ 100000000
  | 0, _ => by simp [carA]
  | i + 1, h => by
    have ih := carA_bd p hb i (by omega)
    obtain ⟨_, h2, _⟩ := carA_inv p i (by omega)
    have := hb i
    have e : (carA p i).1.getD i 0 = p.getD i 0 := by rw [List.getD_eq_getElem?_getD, List.getD_eq_getElem?_getD, h2 i (Nat.le_refl _)]
    show ((carA p i).1.getD i 0 + (carA p i).2) / 256 ≤ _
    rw [e]
    omega

set_option maxRecDepth 100000 in
set_option maxHeartbeats 4000000 in
theorem carried_any (p : List Nat) (hp : p.length = 40) (hb : ∀ j, p.getD j 0 ≤ 100000000) (w : World) :
    Calls Try.prog 18 #[.agg (iL p)] w fun e w' => e = .returned (.agg (iL (carA p 40).1)) ∧ Grows w w' := by
  obtain ⟨W0, HW0, hg0⟩ : ∃ W0 : World, Hid (W0 = (w.alloc (.cells (iL p) 40)).alloc (.cells (iL (List.replicate 40 0)) 40)) ∧ Grows w W0 := ⟨_, lib_hid rfl, ((Grows.refl w).alloc _).alloc _⟩
  have HB0 : Hid (Blk W0 w.heap.size 40 (iL (carA p 0).1)) := by
    unfold Hid; rw [HW0.out]; have := (Blk.new (w) 40 (iL p)).alloc (.cells (iL (List.replicate 40 0)) 40); simpa [carA] using this
  obtain ⟨z, Hz⟩ : ∃ z, Hid (iL (List.replicate 40 0) = z) := ⟨_, lib_hid rfl⟩
  have HB1 : Hid (Blk W0 (w.heap.size + 1) 40 z) := by
    unfold Hid; rw [HW0.out, ← Hz.out]; have := Blk.new (w.alloc (.cells (iL p) 40)) 40 (iL (List.replicate 40 0)); simpa using this
  have pl := lib_hid hp
  have pb := lib_hid hb
  have HW0' := HW0.out
  clear hp hb HW0
  go_enter Try.func18, Try.ntmps18
  go_upto_region 1 with (refine wpList_alloc_arr rfl 40 rfl _ zero40 ?_)
  rw [← HW0']
  clear HW0'
  go_wp2_with fail
  go_loopw [3, 4] (fun v i wr => ∃ k c : Nat, k ≤ 40 ∧ v = .int .i64 (c : Int) ∧ i = .int .i64 (k : Int) ∧ Hid ((carA p k).2 = c) ∧ Grows w wr ∧ Hid (Blk wr (w.heap.size + 1) 40 z) ∧ Hid (Blk wr w.heap.size 40 (iL (carA p k).1))) (fun _ i _ => 40 - (intOf i).toNat)
  case atStart => exact ⟨0, 0, by omega, rfl, rfl, lib_hid rfl, hg0, HB1, HB0⟩
  case round =>
    clear hg0 HB1 HB0
    obtain ⟨k, c, hk, rfl, rfl, Hc, hgr, hZ, hC⟩ := hrel
    by_cases hlt : k < 40
    · have hki : (k : Int) < 40 := by omega
      obtain ⟨q, Hq, ql⟩ : ∃ q, Hid ((carA p k).1 = q) ∧ Hid (q.length = 40) := ⟨_, lib_hid rfl, by unfold Hid; rw [carA_len, pl.out]⟩
      rw [Hq.out] at hC
      obtain ⟨x, Hx, hxb⟩ : ∃ x : Nat, Hid (q.getD k 0 = x) ∧ (x : Int) ≤ 100000000 := ⟨_, lib_hid rfl, by
        obtain ⟨_, h2, _⟩ := carA_inv p k (by rw [pl.out]; omega)
        have := pb.out k
        rw [← Hq.out, List.getD_eq_getElem?_getD, h2 k (Nat.le_refl _), ← List.getD_eq_getElem?_getD]
        omega⟩
      have hcb : (c : Int) ≤ 100000000 := by
        have := carA_bd p pb.out k (by rw [pl.out]; omega)
        rw [Hc.out] at this
        omega
      obtain ⟨y, hy, Hy, hyb⟩ : ∃ y : Nat, (x : Int) + (c : Int) = (y : Int) ∧ Hid (y = x + c) ∧ (y : Int) ≤ 200000000 := ⟨x + c, by omega, lib_hid rfl, by omega⟩
      obtain ⟨d, hd, Hd, hdb⟩ : ∃ d : Nat, (y : Int).tdiv 256 = (d : Int) ∧ Hid (d = y / 256) ∧ (d : Int) ≤ 100000000 := ⟨y / 256, by rw [Int.tdiv_eq_ediv_of_nonneg (by omega)]; omega, lib_hid rfl, by omega⟩
      obtain ⟨r, hr, Hr, hrb⟩ : ∃ r : Nat, (y : Int).tmod 256 = (r : Int) ∧ Hid (r = y % 256) ∧ (r : Int) ≤ 255 := ⟨y % 256, by rw [Int.tmod_eq_emod_of_nonneg (by omega)]; omega, lib_hid rfl, by omega⟩
      have cI : wr.cell? ⟨w.heap.size, k, none⟩ = some (.int .i64 (x : Int)) := by rw [← Hx.out]; exact cellL hC.out k (by rw [ql.out]; exact hlt)
      have fI := hC.out.frozen k
      obtain ⟨W1, HW1⟩ : ∃ X : World, Hid (X = wr.setCell ⟨w.heap.size, k, none⟩ (.int .i64 (y : Int))) := ⟨_, lib_hid rfl⟩
      have B1 : Hid (Blk W1 w.heap.size 40 (iL (q.set k y))) := by unfold Hid; rw [HW1.out]; exact blk_setL hC.out k y
      have Z1 : Hid (Blk W1 (w.heap.size + 1) 40 z) := by unfold Hid; rw [HW1.out]; exact hZ.out.far (p := ⟨w.heap.size, k, none⟩) (by simp) _
      have g1 : Grows w W1 := by rw [HW1.out]; exact hgr.setCell (p := ⟨w.heap.size, k, none⟩) (Nat.le_refl _) _
      have c1 : W1.cell? ⟨w.heap.size, k, none⟩ = some (.int .i64 (y : Int)) := by
        have := cellL B1.out k (by rw [List.length_set, ql.out]; exact hlt)
        rw [set_getD _ _ _ _ (by rw [ql.out]; exact hlt), if_pos rfl] at this
        exact this
      have f1 := B1.out.frozen k
      obtain ⟨W2, HW2⟩ : ∃ X : World, Hid (X = W1.setCell ⟨w.heap.size, k, none⟩ (.int .i64 (r : Int))) := ⟨_, lib_hid rfl⟩
      have B2 : Hid (Blk W2 w.heap.size 40 (iL (carA p (k + 1)).1)) := by
        have := blk_setL B1.out k r
        rw [List.set_set] at this
        unfold Hid; rw [HW2.out]
        show Blk _ _ _ (iL ((carA p k).1.set k (((carA p k).1.getD k 0 + (carA p k).2) % 256)))
        rw [Hq.out, Hx.out, Hc.out, ← Hy.out, ← Hr.out]
        exact this
      have Z2 : Hid (Blk W2 (w.heap.size + 1) 40 z) := by unfold Hid; rw [HW2.out]; exact Z1.out.far (p := ⟨w.heap.size, k, none⟩) (by simp) _
      have g2 : Grows w W2 := by rw [HW2.out]; exact g1.setCell (p := ⟨w.heap.size, k, none⟩) (Nat.le_refl _) _
      have Hc2 : Hid ((carA p (k + 1)).2 = d) := by
        unfold Hid
        show ((carA p k).1.getD k 0 + (carA p k).2) / 256 = d
        rw [Hq.out, Hx.out, Hc.out, ← Hy.out, ← Hd.out]
      have HW1' := HW1.out
      have HW2' := HW2.out
      clear hC hZ hgr HW1 HW2 B1 Z1 g1 hlt
      go_upto_region 6 with fail
      rw [← HW1']
      clear HW1' cI fI hxb hcb hy
      go_upto_region 4 with fail
      rw [← HW2']
      clear HW2' c1 f1 hd hr
      go_wp2_with fail
      go_roundw
      case rel => exact ⟨k + 1, d, by omega, rfl, by go_num, Hc2, g2, Z2, B2⟩
      case measure => simp [intOf]; omega
    · have Hk : Hid (k = 40) := by unfold Hid; omega
      have hki : ¬ (k : Int) < 40 := by omega
      obtain ⟨res, Hres, hrl, hra⟩ : ∃ r : Array Value, Hid (iL (carA p 40).1 = r) ∧ r.size = 40 ∧ r.all (·.oneCell') = true := ⟨_, lib_hid rfl, by rw [iL_size, carA_len, pl.out], iL_all _⟩
      have zl : z.size = 40 := by rw [← Hz.out, iL_size]; simp
      have hR : Hid (Blk wr w.heap.size 40 res) := by unfold Hid; rw [← Hres.out]; have := hC.out; rw [Hk.out] at this; exact this
      clear hC hlt
      go_wp2_with (first
        | (refine wpList_load_blk rfl _ _ rfl w.heap.size rfl 40 res _ hR.out Try.underlying40 rfl (by rw [Try.size40, hrl]) ?_)
        | (refine wpList_store_blk rfl _ _ _ rfl (w.heap.size + 1) res rfl rfl 40 _ hZ.out (by rw [Try.size40, hrl]) (by rw [zl, hrl]) hra (w.heap.size + 1) wr (Below.refl _ _) (Nat.le_refl _) ?_; intro w5 HR6 hb5 hgr5))
      refine bodyPost_ret (results_cell_row rfl _ _ (w.heap.size + 1) _ res _ _ rfl HR6 Try.underlying40 rfl (by rw [Try.size40, hrl])) rfl ?_
      exact ⟨by rw [Hres.out], Below.trans hgr (hb5.mono (by omega))⟩

end Go.Proofs.Ytilgkadochhkjaa
