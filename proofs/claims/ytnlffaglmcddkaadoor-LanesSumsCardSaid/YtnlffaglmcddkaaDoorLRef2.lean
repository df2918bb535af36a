/-
  palfreyref13.Order.
-/
import Derived.Test.YtnlffaglmcddkaaDoorLRef
import Derived.Test.YtnlffaglmcddkaaDoorArrEqW
import Derived.Deep.Cut
namespace Go.Proofs.YtnlffaglmcddkaaDoor
open Go Go.RowKit
set_option linter.unusedSimpArgs false
set_option linter.unusedVariables false

theorem run_equalIn_ints {P : Program} (w : World) (d : Nat) (t e : TypeId) (k : Nat) (xs ys : List Int) (hx : xs.length = k) (hy : ys.length = k)
    (ht : P.underlying t = some (.array k e)) (he : P.underlying e = some (.int .i64)) (hs : (P.info? e).map (·.size) = some 1) :
    (Op.equalIn (d + 2) t (.agg (xs.map iV).toArray) (.agg (ys.map iV).toArray)).run P w = .ok (xs == ys) w := by
  obtain ⟨i, hi, hi1⟩ : ∃ i, P.info? e = some i ∧ P.cellsOf e = 1 := by
    cases h : P.info? e with
    | none => rw [h] at hs; simp at hs
    | some i => rw [h] at hs; exact ⟨i, rfl, by unfold Program.cellsOf; rw [h]; simpa using hs⟩
  have hpk : P.plainKey e = true := by simp [Program.plainKey, he]
  rw [show d + 2 = (d + 1) + 1 from rfl, Op.equalIn]
  simp only [Sem.run_bind, run_underlying ht, Result.andThen_ok, run_sizeOf w hi, hi1, Nat.mul_one]
  simp only [Std.Legacy.Range.forIn_eq_forIn_range', Std.Legacy.Range.size, Nat.sub_zero, Nat.add_sub_cancel, Nat.div_one]
  suffices H : ∀ m s, s + m = k → ∀ w, ((Sem.run P (forIn (List.range' s m 1) ((none : Option Bool), ()) fun i __s => do
      let a ← part e (xs.map iV).toArray i
      let b ← part e (ys.map iV).toArray i
      let r ← Op.equalIn (d + 1) e a b
      if (!r) = true then pure (ForInStep.done (some false, ())) else pure (ForInStep.yield (none, ()))) w).andThen fun a w' => (match a.1 with | none => (pure true : Sem Bool) | some r => pure r).run P w') = .ok (xs.drop s == ys.drop s) w by
    have := H k 0 (by omega) w
    simp only [List.drop_zero] at this
    rw [← this]
    congr 1
    funext a w'
    rcases a with ⟨_ | r, _⟩ <;> rfl
  intro m
  induction m with
  | zero =>
    intro s h w
    simp [List.drop_of_length_le (show xs.length ≤ s by omega), List.drop_of_length_le (show ys.length ≤ s by omega)]
  | succ m ih =>
    intro s h w
    have h1 : (xs.map iV).toArray[s]? = some (.int .i64 (xs[s]'(by omega))) := by simp [iV, show s < xs.length by omega]
    have h2 : (ys.map iV).toArray[s]? = some (.int .i64 (ys[s]'(by omega))) := by simp [iV, show s < ys.length by omega]
    rw [List.range'_succ, List.forIn_cons]
    simp only [Sem.run_bind, run_part_plain _ hpk h1, run_part_plain _ hpk h2, Result.andThen_ok, run_equalIn_int _ d e _ _ _ _ he]
    rw [List.drop_eq_getElem_cons (show s < xs.length by omega), List.drop_eq_getElem_cons (show s < ys.length by omega)]
    by_cases hc : xs[s]'(by omega) = ys[s]'(by omega)
    · have e1 : ((xs[s]'(by omega)) == (ys[s]'(by omega))) = true := by rw [hc]; simp
      simp only [e1, Bool.not_true, Bool.false_eq_true, if_false, Sem.run_pure, Result.andThen_ok]
      rw [ih (s + 1) (by omega) w, List.cons_beq_cons, hc, beq_self_eq_true, Bool.true_and]
    · have e1 : ((xs[s]'(by omega)) == (ys[s]'(by omega))) = false := by
        simp only [beq_eq_false_iff_ne, ne_eq]
        intro h; exact hc h
      simp only [e1, Bool.not_false, if_true, Sem.run_pure, Result.andThen_ok]
      rw [List.cons_beq_cons, beq_eq_false_iff_ne.mpr hc, Bool.false_and]



theorem Tryd.sizeA2 : (Tryd.prog.info? 59).map (·.size) = some 2 := by kernel_rfl
theorem ordI_succ (B : Nat → Nat) (t k i : Nat) : ordI B t k (i + 1) = ordI B t k i ++ if endF B i = (t, k) then [i] else [] := by
  unfold ordI
  rw [List.range_succ, List.filter_append]
  by_cases h : endF B i = (t, k)
  · simp [h]
  · simp [h]
theorem ordK_succ (B : Nat → Nat) (N t j : Nat) : ordK B N t (j + 1) = ordK B N t j ++ ordI B t j N := by
  unfold ordK
  rw [List.range_succ, List.flatMap_append]
  simp
theorem ordF_succ (B : Nat → Nat) (N T : Nat) : ordF B N (T + 1) = ordF B N T ++ ordK B N (T + 1) 4 := by
  unfold ordF
  rw [List.range_succ, List.flatMap_append]
  simp
theorem ordI_le (B : Nat → Nat) (t k N : Nat) : (ordI B t k N).length ≤ N := by
  unfold ordI
  have := List.length_filter_le (fun i => endF B i == (t, k)) (List.range N)
  rw [List.length_range] at this
  exact this
theorem ordK_le (B : Nat → Nat) (N t : Nat) : ∀ j, (ordK B N t j).length ≤ j * N
  | 0 => by simp [ordK]
  | j + 1 => by rw [ordK_succ, List.length_append, Nat.add_mul, Nat.one_mul]; have := ordK_le B N t j; have := ordI_le B t j N; omega
/-- The numbers so far: a slice that the call owns. -/
def OutN (W : World) (base : Nat) (C : Option Addr) (m e : Nat) (ws : List Nat) : Prop := OwnAt W base C m e ((ws.map fun (x : Nat) => (x : Int)).map iV)
theorem OutN.len {W : World} {base : Nat} {C : Option Addr} {m e : Nat} {ws : List Nat} (h : OutN W base C m e ws) : ws.length = m := by
  have := h.1
  simpa using this
set_option maxRecDepth 100000 in
set_option maxHeartbeats 4000000 in
theorem refOrder_any (l : List Int) (A : Option Addr) (n c : Nat) (w : World) (hl : IR w A n c l) (hn : n ≤ 100) (h5 : ∀ x ∈ l, -9223372036854775808 ≤ x ∧ x ≤ 5000) :
    Calls Tryd.prog 16 #[.slice A n c] w fun e w' => ∃ C c', e = .returned (.slice C n c') ∧ Grows w w' ∧ IR w' C n c' ((ordF (blkL l) n (maxF (blkL l) n)).map fun (x : Nat) => (x : Int)) := by
  have HE := lib_hid (ends_any l A n c w hl hn h5)
  have hpos := blkL_pos l
  have hlen0 := lib_hid (ord_len (blkL l) hpos n)
  have hnm : (n : Int) ≤ 100 := by omega
  obtain ⟨B, HB⟩ : ∃ B, Hid (blkL l = B) := ⟨_, lib_hid rfl⟩
  have Hbd : Hid (maxF B n ≤ 100000) := by
    have := maxF_bound (blkL l) 80 (blkL_le l h5) n
    rw [HB.out] at this
    unfold Hid
    omega
  rw [HB.out] at HE hlen0 ⊢
  obtain ⟨T, HT⟩ : ∃ T, Hid (maxF B n = T) := ⟨_, lib_hid rfl⟩
  rw [HT.out] at HE Hbd hlen0 ⊢
  have hTm : (T : Int) ≤ 100000 := by have := Hbd.out; omega
  have Hle : Hid (∀ t, t ≤ T → (ordF B n t).length ≤ n) := fun t ht => by
    have := ordF_le B n t T ht
    rw [hlen0.out] at this
    exact this
  clear hl h5 hpos
  go_enter Tryd.func16, Tryd.ntmps16
  go_wp2_with fail
  refine HE.out.mono ?_
  rintro e w1 ⟨E, ce, rfl, hg1, hE⟩
  have HSE := lib_hid hE
  have hll := lib_hid hE.len
  have hcap := hE.max
  unfold maxLen at hcap
  have hnc := hE.cap
  have Hg1 := lib_hid hg1
  clear hE hg1 HE
  go_wp2
  go_loopw [6, 5] (fun i o wr => ∃ (t t1 : Nat) (C : Option Addr) (m e : Nat), t ≤ T ∧ Hid (t1 = t + 1) ∧ i = .int .i64 (t1 : Int) ∧ o = .slice C m e ∧ Grows w1 wr ∧ Hid (OutN wr w1.heap.size C m e (ordF B n t))) (fun i _ _ => T + 1 - (intOf i).toNat)
  case atStart => exact ⟨0, 1, none, 0, 0, Nat.zero_le _, lib_hid rfl, rfl, rfl, Grows.refl _, lib_hid (OwnAt.nil _ _)⟩
  case round =>
    obtain ⟨t, t1, C, m, e, ht, Ht1, rfl, rfl, hgr, HO⟩ := hrel
    have ht1m : (t1 : Int) ≤ 100001 := by have := Ht1.out; omega
    by_cases hlt : t < T
    · have hti : (t1 : Int) ≤ (T : Int) := by have := Ht1.out; omega
      have hmn : m ≤ 100 := by have := HO.out.len; have := Hle.out t ht; omega
      have Htl := lib_hid hlt
      clear ht hlt
      go_wp2
      clear hti
      go_loopw [7, 5] (fun i o wk => ∃ (k : Nat) (C : Option Addr) (m e : Nat), k ≤ 4 ∧ i = .int .i64 (k : Int) ∧ o = .slice C m e ∧ Grows w1 wk ∧ Hid (OutN wk w1.heap.size C m e (ordF B n t ++ ordK B n t1 k))) (fun i _ _ => 4 - (intOf i).toNat)
      case atStart => exact ⟨0, C, m, e, Nat.zero_le _, rfl, rfl, hgr, lib_hid (by rw [show ordK B n t1 0 = [] from rfl, List.append_nil]; exact HO.out)⟩
      case round =>
        clear HO hmn hgr
        obtain ⟨k, C, m, e, hk, rfl, rfl, hgr, HO⟩ := hrel
        by_cases hlt : k < 4
        · have hki : (k : Int) < 4 := by omega
          have Hkl := lib_hid hlt
          clear hlt hk
          go_wp2
          clear hki
          go_loopw [8, 5] (fun i o wi => ∃ (j : Nat) (C : Option Addr) (m e : Nat), j ≤ n ∧ i = .int .i64 (j : Int) ∧ o = .slice C m e ∧ Grows w1 wi ∧ Hid (OutN wi w1.heap.size C m e (ordF B n t ++ ordK B n t1 k ++ ordI B t1 k j))) (fun i _ _ => n - (intOf i).toNat)
          case atStart => exact ⟨0, C, m, e, Nat.zero_le _, rfl, rfl, hgr, lib_hid (by rw [show ordI B t1 k 0 = [] from rfl, List.append_nil]; exact HO.out)⟩
          case round =>
            clear HO hgr
            obtain ⟨j, C, m, e, hj, rfl, rfl, hgr, HO⟩ := hrel
            by_cases hlt : j < n
            · have hji : (j : Int) < (n : Int) := by omega
              have hmb : m ≤ 1000 := by
                have a := HO.out.len
                have b := Hle.out t (Nat.le_of_lt Htl.out)
                have c := ordK_le B n t1 k
                have d := ordI_le B t1 k j
                have k3 := Hkl.out
                have : k * n ≤ 4 * 100 := Nat.mul_le_mul (by omega) (by omega)
                rw [List.length_append, List.length_append] at a
                omega
              obtain ⟨bk, off, x, y, rfl, hb, hxy, hc1, hc2⟩ := HSE.out.at hlt
              have c1 := (hgr.cell (p := ⟨bk, off + j * 2, none⟩) hb).trans hc1
              have c2 := (hgr.cell (p := ⟨bk, off + j * 2 + 1, none⟩) hb).trans hc2
              have hxe : x = ((endF B j).1 : Int) ∧ y = ((endF B j).2 : Int) := by
                have : (endsL B n)[j]? = some (((endF B j).1 : Int), ((endF B j).2 : Int)) := by
                  unfold endsL
                  rw [List.getElem?_map, List.getElem?_range hlt]
                  rfl
                rw [this] at hxy
                have := Option.some.inj hxy
                exact ⟨(congrArg Prod.fst this).symm, (congrArg Prod.snd this).symm⟩
              have Heq : ∀ W : World, (Op.equalIn 10000 59 (.agg #[.int .i64 x, .int .i64 y]) (.agg #[.int .i64 (t1 : Int), .int .i64 (k : Int)])).run Tryd.prog W = .ok (([x, y] : List Int) == [(t1 : Int), (k : Int)]) W := fun W =>
                run_equalIn_ints W 9998 59 3 2 [x, y] [(t1 : Int), (k : Int)] rfl rfl Tryd.underlying59 Tryd.underlying3 (by kernel_rfl)
              have hz : w1.heap.size ≤ wr.heap.size := hgr.le
              have HLd : Hid (∀ j' u, ([iV x, iV y] : List Value)[j']? = some u → wr.cell? ((⟨bk, off + j * 2, none⟩ : Addr).add j') = some u) := lib_hid (fun j' u hu => by
                rw [add_zero_spot]
                rcases j' with _ | _ | j'
                · cases hu; exact c1
                · cases hu; exact c2
                · cases hu)
              clear hxy hb hc1 hc2 hj hlt c1 c2
              by_cases he : endF B j = (t1, k)
              · have Hr : (([x, y] : List Int) == [(t1 : Int), (k : Int)]) = true := by rw [hxe.1, hxe.2, he]; simp
                rw [Hr] at Heq
                have HOs : Hid (ordF B n t ++ ordK B n t1 k ++ ordI B t1 k (j + 1) = (ordF B n t ++ ordK B n t1 k ++ ordI B t1 k j) ++ [j]) := by unfold Hid; rw [ordI_succ, if_pos he, ← List.append_assoc]
                clear Hr he hxe
                go_upto_region 13 with (refine wpList_load_at rfl _ _ rfl ⟨bk, off + j * 2, none⟩ rfl [iV x, iV y] _ Tryd.underlying59 rfl (by rw [Tryd.sizeA2]; rfl) HLd.out ?_)
                clear HLd Heq
                have HOa : Hid (OwnAt (wr.alloc (.cells #[iV (j : Int)] 3)) w1.heap.size C m e (((ordF B n t ++ ordK B n t1 k ++ ordI B t1 k j).map fun (x : Nat) => (x : Int)).map iV)) := lib_hid (HO.out.grows ((Grows.refl _).alloc _))
                have HRw : Hid (Row (wr.alloc (.cells #[iV (j : Int)] 3)) (some ⟨wr.heap.size, 0, none⟩) 1 1 [iV (j : Int)]) := lib_hid ((Blk.new wr 3 #[iV (j : Int)]).row (o := 0) (n := 1) (c := 1) (Nat.le_refl _) (by simp) (by decide))
                have hz2 : w1.heap.size ≤ (wr.alloc (.cells #[iV (j : Int)] 3)).heap.size := by simp; omega
                have HA : Hid (∀ b, blkOf C = some b → w1.heap.size ≤ b) := fun b hb => (blkOf_sub HOa.out b hb).1
                go_wp2_with (at_builtin; refine wpList_append_at rfl _ _ 27 27 rfl w1.heap.size 3 (.int .i64 0) 8 Tryd.underlying27 Tryd.infoInt rfl C m e _ rfl HOa.out (.slice (some ⟨wr.heap.size, 0, none⟩) 1 1) rfl 1 [iV (j : Int)] (Row.src HRw.out Tryd.underlying27 (iV_one [(j : Int)])) (by omega) (by omega) hz2 ?_; intro C4 c4 w4 hO4 hG4 hl4)
                have hgr4 : Grows w1 w4 := (hgr.alloc _).grown hG4 (fun b hb => HA.out b hb)
                have HO4 : Hid (OutN w4 w1.heap.size C4 (m + 1) c4 (ordF B n t ++ ordK B n t1 k ++ ordI B t1 k (j + 1))) := by
                  unfold Hid OutN
                  rw [HOs.out, List.map_append, List.map_append]
                  exact hO4
                clear hO4 hG4 hl4 HOa HRw HO hz2 HOs
                go_roundw
                case rel => exact ⟨j + 1, C4, m + 1, c4, by omega, by go_num, rfl, hgr4, HO4⟩
                case measure => simp [intOf]; omega
              · have Hr : (([x, y] : List Int) == [(t1 : Int), (k : Int)]) = false := by
                  rw [beq_eq_false_iff_ne]
                  intro h
                  simp only [List.cons.injEq, and_true] at h
                  exact he (Prod.ext (by have := hxe.1; omega) (by have := hxe.2; omega))
                rw [Hr] at Heq
                have HOs : Hid (ordI B t1 k (j + 1) = ordI B t1 k j) := by unfold Hid; rw [ordI_succ, if_neg he, List.append_nil]
                clear Hr he hxe
                go_wp2_with (refine wpList_load_at rfl _ _ rfl ⟨bk, off + j * 2, none⟩ rfl [iV x, iV y] _ Tryd.underlying59 rfl (by rw [Tryd.sizeA2]; rfl) HLd.out ?_)
                go_roundw
                case rel => exact ⟨j + 1, C, m, e, by omega, by go_num, rfl, hgr, by unfold Hid; rw [HOs.out]; exact HO.out⟩
                case measure => simp [intOf]; omega
            · have hji : ¬ (j : Int) < (n : Int) := by omega
              obtain rfl : j = n := by omega
              have HO2 : Hid (OutN wr w1.heap.size C m e (ordF B j t ++ ordK B j t1 (k + 1))) := by unfold Hid; rw [ordK_succ, ← List.append_assoc]; exact HO.out
              have hkm := Hkl.out
              clear HO
              go_wp2
              go_roundw
              case rel => exact ⟨k + 1, C, m, e, by omega, by go_num, rfl, hgr, HO2⟩
              case measure => simp [intOf]; omega
        · have hki : ¬ (k : Int) < 4 := by omega
          obtain rfl : k = 4 := by omega
          have HO2 : Hid (OutN wr w1.heap.size C m e (ordF B n (t + 1))) := by unfold Hid; rw [ordF_succ, ← Ht1.out]; exact HO.out
          have htm := Htl.out
          have ht2 := Ht1.out
          clear HO
          go_wp2
          go_roundw
          case rel => exact ⟨t + 1, t1 + 1, C, m, e, by omega, by unfold Hid; omega, by go_num, rfl, hgr, HO2⟩
          case measure => simp [intOf]; omega
    · have hti : ¬ (t1 : Int) ≤ (T : Int) := by have := Ht1.out; omega
      obtain rfl : t = T := by omega
      have hm : m = n := by have := HO.out.len; rw [hlen0.out] at this; exact this.symm
      subst hm
      have HO2 := lib_hid (OwnAt.row HO.out)
      clear HO
      go_wp2
      go_ret
      exact ⟨C, e, rfl, Hg1.out.trans hgr, HO2.out⟩
end Go.Proofs.YtnlffaglmcddkaaDoor
