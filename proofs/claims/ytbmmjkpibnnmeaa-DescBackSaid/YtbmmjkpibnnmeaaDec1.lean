/-
  desc.Decode.
-/
import Derived.Test.YtbmmjkpibnnmeaaChunk
import Derived.Test.YtbmmjkpibnnmeaaDesc1
import Derived.Test.YtbmmjkpibnnmeaaLe
import Derived.RangeFuncFrom
namespace Go.Proofs.Ytbmmjkpibnnmeaa
open Go Go.RowKit
set_option linter.unusedSimpArgs false
set_option linter.unusedVariables false


attribute [local go_sem] Oper.semAt_some
/-- The number that four bytes tell. -/
def decV (l : List UInt8) : Nat := (littleF l).toNat
theorem decV_lt (l : List UInt8) (h : l.length ≤ 4) : decV l < 4294967296 := by
  unfold decV
  rw [littleF_eq]
  have h1 := leN_lt (l.take 8)
  have h2 : 256 ^ (l.take 8).length ≤ 256 ^ 4 := Nat.pow_le_pow_right (by omega) (by rw [List.length_take]; omega)
  rw [UInt64.toNat_ofNat']
  exact Nat.lt_of_le_of_lt (Nat.mod_le _ _) (Nat.lt_of_lt_of_le h1 h2)
def decAt (bs : List UInt8) (k : Nat) : Int × Int := ((decV ((bs.drop (8 * k)).take 4) : Int), (decV ((bs.drop (8 * k + 4)).take 4) : Int))
def decL (bs : List UInt8) (n : Nat) : List (Int × Int) := (List.range n).map (decAt bs)
theorem decL_fin (bs : List UInt8) (n : Nat) : (List.finRange n).map (fun x => decAt bs x.val) = decL bs n := by
  unfold decL
  apply List.ext_getElem
  · simp
  · intro i h1 h2
    simp
/-- What a call hands back in new memory: spans, and a number. -/
def NewSE (t : TypeId) (w : World) (l : List (Int × Int)) (E : Int) (e : Ending) (w' : World) : Prop :=
  ∃ A n c, Hid (n = l.length) ∧ e = .returned (.tuple #[.slice A n c, .int .i64 E]) ∧ Grows w w' ∧ w'.ownsRow w.heap.size t 2 (.slice A n c) n (flat l)
theorem run_sl_hD {P : Program} {t e : TypeId} (ht : P.underlying t = some (.slice e)) (hs : (P.info? e).map (·.size) = some 1) (bk off n c hi : Nat) (h : Int) (hh : h = hi) (h1 : hi ≤ c) (W : World) :
    Sem.run P (Instr.slice t (.slice (some ⟨bk, off, none⟩) n c) none (some (.int .i64 h)) none) W = .ok (.slice (some ⟨bk, off, none⟩) hi c) W := by
  have e2 : P.elem t = e := by simp [Program.elem, ht]
  obtain ⟨i, hi', hi1⟩ := Option.map_eq_some_iff.1 hs
  have hz : (sizeOf e).run P W = .ok 1 W := by simp [sizeOf, typeInfo, hi', hi1]
  subst hh
  rw [run_slice_h (w := W) t (some ⟨bk, off, none⟩) n c (by rw [e2]; exact ht) .i64 hi (by omega) (by omega), e2, hz]
  simp only [Result.andThen_ok, sliced, Int.toNat_natCast, Nat.sub_zero, Nat.zero_mul]
  split
  · rfl
  · simp [add_zero_spot]
def decR (bs : List UInt8) : List (Int × Int) × Int := if bs.length % 8 ≠ 0 then ([], 17) else if 8 < bs.length / 8 then ([], 10) else (decL bs (bs.length / 8), 0)
theorem keepsK_t {own : Nat → Prop} {A B C : World} (h : Keeps own A B) (k : Keeps own B C) : Keeps own A C := h.trans k (fun _ h _ => h)
theorem keepsK_b {own : Nat → Prop} {w : World} (ho : ∀ l, w.heap.size ≤ l → own l) (W : World) (l : Nat) (o o' : Obj) (hl : w.heap.size ≤ l) (_ : W.heap[l]? = some o) (_ : o.isCells = false) (_ : o.isWalk = false) : Keeps own W (W.putObj l o') :=
  (keeps_grown (grownBy_putObj' W l o')).mono (fun i e _ => by cases e; exact ho l hl)
theorem ownFrom_keeps {β : Type} {own : Nat → Prop} {B : Nat} (w₀ : World) (ho : ∀ l, B ≤ l → own l) : OwnFrom B (fun (_ : β) W => Keeps own w₀ W) :=
  fun _ _ _ _ hs hg hr => keepsK_t hs ((keeps_grown hg).mono (fun i e _ => ho i (hr i e).1))
theorem Grows.others {w w' : World} (h : Grows w w') : KeepsOthers w w' := KeepsOthers.of_grownBy (Grows.grown0 h) (fun j o e => by cases e)
theorem own_cells {base size n : Nat} {e : TypeId} {C : Option Addr} {k c : Nat} {xs : List Value} {w : World} (h : w.ownsRow base e size (.slice C k c) n xs) : ∀ (j : Nat) (o : Obj), blkOf C = some j → w.heap[j]? = some o → o.isCells = true := by
  intro j o hj ho
  rcases h.2 with ⟨hv, h0⟩ | ⟨g, cap, cur, hv, hb, hh, r⟩
  · cases hv
    cases hj
  · cases hv
    cases hj
    have hh2 : w.heap[g]? = some _ := hh
    rw [hh2] at ho
    cases ho
    rfl
theorem sb_part {w : World} {A : Option Addr} {n c b off : Nat} {bs : List UInt8} (h : SB w A n c bs) (hA : A = some ⟨b, off, none⟩) (p m d : Nat) (hm : m ≤ d) (hd : d ≤ maxLen) (hp : p + m ≤ n) : SB w (some ⟨b, off + p, none⟩) m d ((bs.drop p).take m) := by
  subst hA
  have hl := h.len
  refine ⟨by rw [List.length_map, List.length_take, List.length_drop]; omega, hm, hd, fun e => (by cases e), fun h0 => ?_⟩
  obtain ⟨b2, off2, e, hb, hc⟩ := h.2.2.2.2 (by omega)
  simp only [Option.some.injEq, Addr.mk.injEq, and_true] at e
  obtain ⟨rfl, rfl⟩ := e
  refine ⟨b, off + p, rfl, hb, fun j hj => ?_⟩
  have := hc (p + j) (by omega)
  rw [← Nat.add_assoc] at this
  rw [this, List.getElem?_map, List.getElem?_map, List.getElem?_take, if_pos hj, List.getElem?_drop]
set_option maxRecDepth 100000 in
set_option maxHeartbeats 4000000 in
theorem decode_any (A : Option Addr) (n c : Nat) (bs : List UInt8) (w : World) (h : SB w A n c bs) (hm : n ≤ 1000000) :
    Calls Try.prog 32 #[.slice A n c] w (NewSE 28 w (decR bs).1 (decR bs).2) := by
  have H := lib_hid h
  have Hl := lib_hid h.len
  have hcm := h.max
  have hnc := h.cap
  clear h
  refine (callsIn_wide (n := 4)).1 ?_
  refine callsIn_of_wp_marks Try.func32 rfl trivial ?_ rfl
  simp only [Try.ntmps32, List.size_toArray, List.length_cons, List.length_nil, Nat.reduceAdd, Nat.reduceSub, Array.replicate_succ, Array.replicate_zero, List.push_toArray, List.append_toArray, List.nil_append, List.cons_append]
  by_cases h8 : n % 8 ≠ 0
  · have hb : (n : Int) % 8 ≠ 0 := by omega
    have Hd : Hid (decR bs = ([], 17)) := by unfold Hid decR; rw [Hl.out, if_pos h8]
    rw [Hd.out]
    clear hcm hnc
    gi_wp2
    exact ⟨_, results_tmp2 rfl _ _ _, none, 0, 0, lib_hid rfl, rfl, Grows.refl w, World.ownsRow_nil _ _ _ _⟩
  replace h8 := Decidable.not_not.1 h8
  obtain ⟨cnt, Hcnt⟩ : ∃ cnt, Hid (8 * cnt = n) := ⟨n / 8, by unfold Hid; omega⟩
  have hb1 : (n : Int) % 8 = 0 := by omega
  have hb2 : (n : Int) / 8 = (cnt : Int) := by have := Hcnt.out; omega
  by_cases h9 : 8 < cnt
  · have h9i : (8 : Int) < (cnt : Int) := by omega
    have Hd : Hid (decR bs = ([], 10)) := by unfold Hid decR; have := Hcnt.out; rw [Hl.out, if_neg (by omega), if_pos (by omega)]
    rw [Hd.out]
    clear hcm hnc
    gi_wp2
    exact ⟨_, results_tmp2 rfl _ _ _, none, 0, 0, lib_hid rfl, rfl, Grows.refl w, World.ownsRow_nil _ _ _ _⟩
  have h9i : ¬ (8 : Int) < (cnt : Int) := by omega
  have Hd : Hid (decR bs = (decL bs cnt, 0)) := by unfold Hid decR; have := Hcnt.out; rw [Hl.out, if_neg (by omega), if_neg (by omega), show n / 8 = cnt by omega]
  rw [Hd.out]
  have HCH : Hid (∀ W, CallsIn Fence.wide 3 Try.prog 49 #[.slice A n c, .int .i64 8] W fun e w' => ∃ bs bn, e = .returned (.func (.func 56) #[] #[.pointer (some ⟨bs, 0, none⟩), .pointer (some ⟨bn, 0, none⟩)]) ∧ Grows W w' ∧ W.heap.size ≤ bs ∧ W.heap.size ≤ bn ∧ Blk w' bs 44 #[.slice A n c] ∧ Blk w' bn 3 #[.int .i64 ((8 : Nat) : Int)]) := fun W => callsIn_wide.2 (chunk_any A n c 8 W (by omega) (by omega))
  have Hm := lib_hid hcm
  have Hnc := lib_hid hnc
  clear hcm hnc
  gi_wp2
  refine ⟨trivial, (HCH.out _).mono ?_⟩
  rintro e W2 ⟨bs1, bn1, rfl, hg1, hs1, hs2, hq1, hq2⟩
  have hbx : Blk W2 w.heap.size 24 #[.slice none 0 0] := (Blk.new w 24 #[.slice none 0 0]).grows hg1
  have hg2 : Grows w W2 := ((Grows.refl w).alloc _).trans hg1
  rw [World.size_alloc] at hs1 hs2
  have HBx := lib_hid hbx
  have Hg2 := lib_hid hg2
  have Hq1 := lib_hid hq1
  have Hq2 := lib_hid hq2
  clear hbx hg2 hq1 hq2 hg1
  gi_wp2
  obtain ⟨B0, HB0⟩ : ∃ B0, Hid (w.heap.size = B0) := ⟨_, lib_hid rfl⟩
  rw [HB0.out] at HBx hs1 hs2 ⊢
  have hbl : B0 < W2.heap.size := HBx.out.lt
  obtain ⟨b, off, hA, hbw⟩ : ∃ b off, (0 < cnt → A = some ⟨b, off, none⟩) ∧ (0 < cnt → b < B0) := by
    by_cases h0 : 0 < cnt
    · obtain ⟨b, off, e, hb, _⟩ := H.out.at (by have := Hcnt.out; omega)
      exact ⟨b, off, fun _ => e, fun _ => by rw [← HB0.out]; exact hb⟩
    · exact ⟨0, 0, fun h => absurd h h0, fun h => absurd h h0⟩
  obtain ⟨own, Hown⟩ : ∃ own : Nat → Prop, Hid (own = fun b => b = B0 ∨ W2.heap.size ≤ b) := ⟨_, lib_hid rfl⟩
  have ho : ∀ l, W2.heap.size ≤ l → own l := fun l hl => by rw [Hown.out]; exact .inr hl
  have hn1 : ¬ own bs1 := by have := Hq1.out.lt; rw [Hown.out]; intro h; rcases h with h | h <;> omega
  have hn2 : ¬ own bn1 := by have := Hq2.out.lt; rw [Hown.out]; intro h; rcases h with h | h <;> omega
  have HSt := lib_hid (chunk_stops A 3 bs1 bn1 b off c 8 cnt own W2 (by omega) (by omega) (by omega) (by omega) (by rw [Hcnt.out]; exact Hnc.out) Hm.out hA (by rw [Hcnt.out]; exact Hq1.out) Hq2.out hn1 hn2)
  have HR : Hid (∀ (k : Nat) (W : World), k < cnt → Keeps own W2 W → SB W (some ⟨b, off + 8 * k, none⟩) 4 8 ((bs.drop (8 * k)).take 4) ∧ SB W (some ⟨b, off + 8 * k + 4, none⟩) 4 4 ((bs.drop (8 * k + 4)).take 4)) := fun k W hk hW => by
    have hlt := hbw (by omega)
    have hs := (H.out.grows Hg2.out).keeps hW (fun p e => by
      rw [hA (by omega)] at e; cases e; rw [Hown.out]; intro h; simp only at h; omega)
    have := Hcnt.out
    refine ⟨sb_part hs (hA (by omega)) (8 * k) 4 8 (by omega) (by unfold maxLen; omega) (by omega), ?_⟩
    rw [Nat.add_assoc]
    exact sb_part hs (hA (by omega)) (8 * k + 4) 4 4 (by omega) (by unfold maxLen; omega) (by omega)
  have HF : Hid (¬ own b ∨ ¬ 0 < cnt) := lib_hid (by
    by_cases h0 : 0 < cnt
    · have := hbw h0; left; rw [Hown.out]; intro h; rcases h with h | h <;> omega
    · exact .inr h0)
  refine wpIn_rangeFunc_ownF rfl (by decide) (gf := 56) (lb := #[.pointer (some ⟨bs1, 0, none⟩), .pointer (some ⟨bn1, 0, none⟩)]) rfl trivial (enters_of Try.func56 (by kernel_rfl) rfl)
    HSt.out keepsK_t (keepsK_b ho) (Below.refl _ _) (fun _ => rfl)
    (fun pre W => (∃ v, Boxed W B0 24 v ∧ W.ownsRow W2.heap.size 28 2 v pre.length (flat (pre.map fun x => decAt bs x.val)) ∧ True) ∧ Keeps own W2 W)
    (fun _ _ _ => False)
    (OwnFrom.and (Own.from (holdsRow_own W2.heap.size B0 24 28 2 (fun pre : List (Fin cnt) => pre.length) (fun pre => flat (pre.map fun x => decAt bs x.val)) (fun _ _ => True)) _) (ownFrom_keeps W2 ho))
    (fun _ _ _ _ _ hs _ _ => hs)
    ⟨⟨_, HBx.out, World.ownsRow_nil _ _ _ _, trivial⟩, Keeps.refl _ _⟩
    (fun x => { tmps := #[Value.slice A n c, undef, Value.slice none 0 0, Value.int IntKind.i64 0, Value.pointer (some { block := B0, off := 0 }), chunkV b off 8 x.val, Value.bool false, Value.slice A n c,
                Value.int IntKind.i64 ↑n, Value.int IntKind.i64 0, Value.bool false, Value.bool false,
                Value.slice A n c, Value.int IntKind.i64 ↑n, Value.int IntKind.i64 ↑cnt, Value.bool false,
                Value.slice A n c, .func (.func 56) #[] #[.pointer (some ⟨bs1, 0, none⟩), .pointer (some ⟨bn1, 0, none⟩)], chunkV b off 8 x.val, undef, undef, undef, undef, undef, undef, undef, undef, undef, undef, undef, undef, undef], defers := [] }) ?assign ?body ?done ?stop
  case assign =>
    intro l x W K hK
    unfold chunkV at hK ⊢
    gi_wp2
    exact hK
  case body =>
    rintro l pre x W ⟨⟨v, hbx, hown, _⟩, hkw⟩ hN
    generalize hQ : ownPostK _ _ _ _ _ = Q
    have hQo : ¬ LetsOut Q := by rw [← hQ]; exact fun ⟨_, _, h⟩ => h
    have hQo2 : ¬ LetsOut (Exit.inBlock 2 Q) := fun ⟨_, _, h⟩ => hQo ⟨_, _, h⟩
    have HQ := lib_hid hQ
    clear hQ
    obtain ⟨C, e, rfl⟩ := own_ends hown
    obtain ⟨k, hk⟩ := x
    obtain ⟨q, Hq, hq8⟩ : ∃ q, Hid (pre.length = q) ∧ q ≤ 8 := ⟨_, lib_hid rfl, by omega⟩
    obtain ⟨o, Ho⟩ : ∃ o, Hid (pre.map (fun x => decAt bs x.val) = o) := ⟨_, lib_hid rfl⟩
    rw [Ho.out, Hq.out] at hown
    have HO := lib_hid hown
    have HK := lib_hid hkw
    have HBX := lib_hid hbx
    obtain ⟨k8, Hk8⟩ : ∃ k8, Hid (off + 8 * k = k8) := ⟨_, lib_hid rfl⟩
    have hcv : chunkV b off 8 k = .slice (some ⟨b, k8, none⟩) 8 8 := by unfold chunkV; rw [Hk8.out]
    obtain ⟨x, Hx, hx⟩ : ∃ x, Hid (decV ((bs.drop (8 * k)).take 4) = x) ∧ (x : Int) < 4294967296 := ⟨_, lib_hid rfl, by have := decV_lt ((bs.drop (8 * k)).take 4) (by rw [List.length_take]; omega); omega⟩
    obtain ⟨y, Hy, hy⟩ : ∃ y, Hid (decV ((bs.drop (8 * k + 4)).take 4) = y) ∧ (y : Int) < 4294967296 := ⟨_, lib_hid rfl, by have := decV_lt ((bs.drop (8 * k + 4)).take 4) (by rw [List.length_take]; omega); omega⟩
    have HC : Hid (∀ W', Grows W W' → W'.cell? ⟨B0, 0, none⟩ = some (.slice C q e)) := fun W' hW' => by
      have := (show Blk W B0 24 _ from HBX.out).grows hW'
      rw [Hq.out] at this
      exact this.cell 0
    have HS1 : Hid (∀ W, (Instr.slice 44 (.slice (some ⟨b, k8, none⟩) 8 8) none (some (.int .i64 4)) none).run Try.prog W = .ok (.slice (some ⟨b, k8, none⟩) 4 8) W) := fun W => run_sl_hD Try.underlying44 Try.sizeByte b k8 8 8 4 4 rfl (by omega) W
    have HS2 : Hid (∀ W, (Instr.slice 44 (.slice (some ⟨b, k8, none⟩) 8 8) (some (.int .i64 4)) none none).run Try.prog W = .ok (.slice (some ⟨b, k8 + 4, none⟩) 4 4) W) := fun W => run_sl_lo Try.underlying44 Try.sizeByte b k8 8 8 4 4 rfl (by omega) (by omega) W
    have HL1 : Hid (∀ W', Grows W W' → Calls Try.prog 50 #[.slice (some ⟨b, k8, none⟩) 4 8] W' fun e w' => e = .returned (.int .u64 (x : Int)) ∧ Grows W' w') := fun W' hW' => by
      have h1 := (HR.out k W' hk (keepsK_t HK.out (hW'.keeps own))).1
      rw [Hk8.out] at h1
      have h2 := little_any _ _ _ _ _ h1
      rw [show (littleF ((bs.drop (8 * k)).take 4)).toNat = x from Hx.out] at h2
      exact h2
    have HL2 : Hid (∀ W', Grows W W' → Calls Try.prog 50 #[.slice (some ⟨b, k8 + 4, none⟩) 4 4] W' fun e w' => e = .returned (.int .u64 (y : Int)) ∧ Grows W' w') := fun W' hW' => by
      have h1 := (HR.out k W' hk (keepsK_t HK.out (hW'.keeps own))).2
      rw [Hk8.out] at h1
      have h2 := little_any _ _ _ _ _ h1
      rw [show (littleF ((bs.drop (8 * k + 4)).take 4)).toNat = y from Hy.out] at h2
      exact h2
    have HW2 : Hid (W2.heap.size ≤ W.heap.size) := HK.out.size
    rw [hcv]
    refine wpIn_block ?_
    clear hbx hown hkw hcv hN HSt HR h8 hb1 hb2 h9 h9i hA hbw hs1 hs2 hbl hn1 hn2 ho
    apply wpIn_region_mono 11 ((.is _, []) :: (.is _, []) :: (.is _, []) :: (.is (.int .u64 (x : Int)), []) :: (.is _, []) :: (.is _, []) :: (.is _, []) :: (.is (.int .u64 (y : Int)), []) :: (.is _, []) :: (.is _, []) :: (.pr (fun v W => ∃ g, v = .slice (some ⟨g, 0, none⟩) 1 1 ∧ Blk W g 28 #[iV x, iV y]), []) :: []) (by kernel_rfl) (by kernel_rfl) (by kernel_rfl) hQo2
    apply Mono.is0
    · kernel_rfl
    · intro W hW
      have q2 := HC.out W hW
      go_wp2
      refine ⟨rfl, rfl, Grows.refl _, ?_⟩
      unfold Oper.valAt
      go_simp
      rfl
    intro k1 a1 hk1 ha1
    simp only [Nat.reduceAdd] at hk1
    simp only [Act.put, List.setIfInBounds_toArray, List.set_cons_succ, List.set_cons_zero] at ha1
    subst hk1 ha1
    apply Mono.is0
    · kernel_rfl
    · intro W hW
      go_wp2
      refine ⟨rfl, rfl, Grows.refl _, ?_⟩
      unfold Oper.valAt
      go_simp
      rfl
    intro k1 a1 hk1 ha1
    simp only [Nat.reduceAdd] at hk1
    simp only [Act.put, List.setIfInBounds_toArray, List.set_cons_succ, List.set_cons_zero] at ha1
    subst hk1 ha1
    apply Mono.is0
    · kernel_rfl
    · intro W hW
      have s1 := HS1.out W
      go_wp2
      refine ⟨rfl, rfl, Grows.refl _, ?_⟩
      unfold Oper.valAt
      go_simp
      rfl
    intro k1 a1 hk1 ha1
    simp only [Nat.reduceAdd] at hk1
    simp only [Act.put, List.setIfInBounds_toArray, List.set_cons_succ, List.set_cons_zero] at ha1
    subst hk1 ha1
    apply Mono.is0
    · kernel_rfl
    · intro W hW 
      go_wp2_with fail
      refine (HL1.out W hW).mono ?_
      rintro e w1 ⟨rfl, hg1⟩
      go_wp2
      exact ⟨rfl, rfl, hg1, rfl⟩
    intro k1 a1 hk1 ha1
    simp only [Nat.reduceAdd] at hk1
    simp only [Act.put, List.setIfInBounds_toArray, List.set_cons_succ, List.set_cons_zero] at ha1
    subst hk1 ha1
    iterate 2
      apply Mono.is0
      · kernel_rfl
      · intro W hW
        go_wp2
        refine ⟨rfl, rfl, Grows.refl _, ?_⟩
        unfold Oper.valAt
        go_simp
        rfl
      intro k1 a1 hk1 ha1
      simp only [Nat.reduceAdd] at hk1
      simp only [Act.put, List.setIfInBounds_toArray, List.set_cons_succ, List.set_cons_zero] at ha1
      subst hk1 ha1
    apply Mono.is0
    · kernel_rfl
    · intro W hW
      have s2 := HS2.out W
      go_wp2
      refine ⟨rfl, rfl, Grows.refl _, ?_⟩
      unfold Oper.valAt
      go_simp
      rfl
    intro k1 a1 hk1 ha1
    simp only [Nat.reduceAdd] at hk1
    simp only [Act.put, List.setIfInBounds_toArray, List.set_cons_succ, List.set_cons_zero] at ha1
    subst hk1 ha1
    apply Mono.is0
    · kernel_rfl
    · intro W hW 
      go_wp2_with fail
      refine (HL2.out W hW).mono ?_
      rintro e w1 ⟨rfl, hg1⟩
      go_wp2
      exact ⟨rfl, rfl, hg1, rfl⟩
    intro k1 a1 hk1 ha1
    simp only [Nat.reduceAdd] at hk1
    simp only [Act.put, List.setIfInBounds_toArray, List.set_cons_succ, List.set_cons_zero] at ha1
    subst hk1 ha1
    iterate 2
      apply Mono.is0
      · kernel_rfl
      · intro W hW
        go_wp2
        refine ⟨rfl, rfl, Grows.refl _, ?_⟩
        unfold Oper.valAt
        go_simp
        rfl
      intro k1 a1 hk1 ha1
      simp only [Nat.reduceAdd] at hk1
      simp only [Act.put, List.setIfInBounds_toArray, List.set_cons_succ, List.set_cons_zero] at ha1
      subst hk1 ha1
    apply Mono.pr0
    · kernel_rfl
    · exact fun v W W' hW ⟨g, h1, h2⟩ => ⟨g, h1, h2.grows hW⟩
    · intro W hW 
      go_wp2
      refine ⟨rfl, rfl, (Grows.refl _).alloc _, W.heap.size, ?_, Blk.new W _ _⟩
      unfold Oper.valAt
      go_simp
    intro v10
    intro k1 a1 hk1 ha1
    simp only [Nat.reduceAdd] at hk1
    simp only [Act.put, List.setIfInBounds_toArray, List.set_cons_succ, List.set_cons_zero] at ha1
    subst hk1 ha1
    refine Mono.done ?_
    intro wm hgm
    simp only [allF, List.drop_succ_cons, List.drop_zero]
    intro g10
    obtain ⟨g, rfl, hg⟩ := g10
    have hOm := own_grows HO.out hgm
    have hcells := own_cells hOm
    have hge : ∀ i, blkOf C = some i → W2.heap.size ≤ i := fun i hi => (hOm.lt i (by rw [show (Value.slice C q e).ownBlock = blkOf C by cases C <;> rfl]; exact hi)).1
    have Hcells := lib_hid hcells
    have Hge := lib_hid hge
    have Hgm := lib_hid hgm
    have HOm := lib_hid hOm
    have HBg := lib_hid hg
    have Hsz : Hid (W2.heap.size ≤ wm.heap.size) := Nat.le_trans HW2.out hgm.size
    clear hcells hge hgm hOm hg HS1 HS2 HL1 HL2 HC
    refine wpList_append_pair (by kernel_rfl) _ _ 24 rfl W2.heap.size 28 (.agg #[.int .i64 0, .int .i64 0]) 16 Try.underlying24 Try.info28 rfl C q e o rfl HOm.out g 28 x y rfl HBg.out (by omega) (by omega) Hsz.out ?_
    intro A' c' w4 ho4 hb4 hg4
    have hbm : Blk wm B0 24 #[.slice C q e] := by
      have := (show Blk W B0 24 _ from HBX.out).grows Hgm.out
      rw [Hq.out] at this
      exact this
    have Hne : Hid (some B0 ≠ blkOf C) := fun e1 => by
      have h1 := Hge.out B0 e1.symm
      have h2 := HBx.out.lt
      omega
    have hb4 : Blk w4 B0 24 #[.slice C q e] := hbm.grown hg4 Hne.out
    have c4 : w4.cell? ⟨B0, 0, none⟩ = some (.slice C q e) := hb4.cell 0
    have f4 := hb4.frozen 0
    have HB4 := lib_hid hb4
    have HO4 := lib_hid ho4
    have HG4 := lib_hid hg4
    clear ho4 hb4 hg4 hbm
    go_wp2

    rw [← HQ.out]
    have hK2 : Keeps own W (w4.setCell ⟨B0, 0, none⟩ (.slice A' (q + 1) c')) := keepsK_t (Hgm.out.keeps own) (keepsK_t ((keeps_grown HG4.out).mono (fun i e _ => by rw [Hown.out]; exact .inr (Hge.out i e))) ((keeps_set w4 ⟨B0, 0, none⟩ _).mono (fun i e _ => by rw [Hown.out]; exact .inl e)))
    refine ⟨(Grows.others Hgm.out).trans ((KeepsOthers.of_grownBy HG4.out Hcells.out).trans (KeepsOthers.setCell _ _ _)), hK2, ⟨_, Boxed.set _ HB4.out, ?_, trivial⟩, keepsK_t HK.out hK2⟩
    rw [List.length_append, List.map_append, Ho.out, Hq.out]
    have hxy : decAt bs k = ((x : Int), (y : Int)) := by unfold decAt; rw [Hx.out, Hy.out]
    simp only [List.map_cons, List.map_nil, List.length_cons, List.length_nil]
    rw [hxy]
    exact ownsRow_setCell_below HO4.out HBx.out.lt _
  case done =>
    rintro D ys W hD rfl ⟨⟨v, hbx, hown, _⟩, hkw⟩ hK
    obtain ⟨C, e, rfl⟩ := own_ends hown
    rw [List.length_finRange, decL_fin] at hown
    have c4 : W.cell? ⟨B0, 0, none⟩ = _ := hbx.cell
    have Hbx := lib_hid hbx
    have Ho := lib_hid hown
    have HK := lib_hid hkw
    clear hbx hown hkw hA hbw HSt HR
    gi_wp2
    refine ⟨by simp, .inl ⟨_, _, rfl, run_takeDeferred hK, ?_⟩⟩
    have hgw : Grows w W := Below.trans Hg2.out (HK.out.below (B := w.heap.size) Hg2.out.size (fun i hi => by rw [Hown.out] at hi; have := HB0.out; rcases hi with hi | hi <;> omega))
    have hDw : w.heap.size ≤ D := by have := HB0.out; omega
    refine ⟨_, results_tmp2 rfl _ _ _, C, cnt, e, lib_hid (by unfold decL; simp), rfl, Below.trans hgw (belowK_b (w := w) (Nat.le_refl _) W D _ _ hDw hK rfl rfl), ?_⟩
    exact ownsRow_putObj (own_base Ho.out (by have := HB0.out; omega)) _ hK rfl
  case stop =>
    rintro D c pre W _ _ h _
    exact h.elim
end Go.Proofs.Ytbmmjkpibnnmeaa
