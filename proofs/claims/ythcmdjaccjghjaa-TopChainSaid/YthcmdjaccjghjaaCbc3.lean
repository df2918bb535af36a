/-
  cbc.Seal.
-/
import Derived.Test.YthcmdjaccjghjaaChunk
import Derived.Test.YthcmdjaccjghjaaConcat
import Derived.Test.YthcmdjaccjghjaaCbc2
import Derived.Test.YthcmdjaccjghjaaAes8
import Derived.Test.YthcmdjaccjghjaaChainLe
import Derived.RangeFuncFrom
import Derived.Deep.Cut
namespace Go.Proofs.Ythcmdjaccjghjaa
open Go Go.RowKit
set_option linter.unusedSimpArgs false
set_option linter.unusedVariables false


attribute [local go_sem] Oper.semAt_some
theorem keepsK_tC {own : Nat → Prop} {A B C : World} (h : Keeps own A B) (k : Keeps own B C) : Keeps own A C := h.trans k (fun _ h _ => h)
theorem keepsK_bC {own : Nat → Prop} {w : World} (ho : ∀ l, w.heap.size ≤ l → own l) (W : World) (l : Nat) (o o' : Obj) (hl : w.heap.size ≤ l) (_ : W.heap[l]? = some o) (_ : o.isCells = false) (_ : o.isWalk = false) : Keeps own W (W.putObj l o') :=
  (keeps_grown (grownBy_putObj' W l o')).mono (fun i e _ => by cases e; exact ho l hl)
theorem ownFrom_keepsC {β : Type} {own : Nat → Prop} {B : Nat} (w₀ : World) (ho : ∀ l, B ≤ l → own l) : OwnFrom B (fun (_ : β) W => Keeps own w₀ W) :=
  fun _ _ _ _ hs hg hr => keepsK_tC hs ((keeps_grown hg).mono (fun i e _ => ho i (hr i e).1))
theorem Grows.othersC {w w' : World} (h : Grows w w') : KeepsOthers w w' := KeepsOthers.of_grownBy (Grows.grown0 h) (fun j o e => by cases e)
theorem own_cellsC {base size n : Nat} {e : TypeId} {C : Option Addr} {k c : Nat} {xs : List Value} {w : World} (h : w.ownsRow base e size (.slice C k c) n xs) : ∀ (j : Nat) (o : Obj), blkOf C = some j → w.heap[j]? = some o → o.isCells = true := by
  intro j o hj ho
  rcases h.2 with ⟨hv, h0⟩ | ⟨g, cap, cur, hv, hb, hh, r⟩
  · cases hv
    cases hj
  · cases hv
    cases hj
    have hh2 : w.heap[g]? = some _ := hh
    rw [hh2] at ho
    cases ho
    rfl
theorem sb_partC {w : World} {A : Option Addr} {n c b off : Nat} {bs : List UInt8} (h : SB w A n c bs) (hA : A = some ⟨b, off, none⟩) (p m d : Nat) (hm : m ≤ d) (hd : d ≤ maxLen) (hp : p + m ≤ n) : SB w (some ⟨b, off + p, none⟩) m d ((bs.drop p).take m) := by
  subst hA
  have hl := h.len
  refine ⟨by rw [List.length_map, List.length_take, List.length_drop]; omega, hm, hd, fun e => (by cases e), fun h0 => ?_⟩
  obtain ⟨b2, off2, e, hb, hc⟩ := h.2.2.2.2 (by omega)
  simp only [Option.some.injEq, Addr.mk.injEq, and_true] at e
  obtain ⟨rfl, rfl⟩ := e
  refine ⟨b, off + p, rfl, hb, fun j hj => ?_⟩
  have := hc (p + j) (by omega)
  rw [← Nat.add_assoc] at this
  rw [this, List.getElem?_map, List.getElem?_map, List.getElem?_take, if_pos hj, List.getElem?_drop]
/-- The same, over a list of the blocks' numbers. -/
def chG (E : List UInt8 → List UInt8) (D iv : List UInt8) (ks : List Nat) : List UInt8 × List UInt8 :=
  ks.foldl (fun s k => (s.1 ++ E (xorF s.2 ((D.drop (16 * k)).take 16)), E (xorF s.2 ((D.drop (16 * k)).take 16)))) ([], iv)
theorem chG_snoc (E : List UInt8 → List UInt8) (D iv : List UInt8) (ks : List Nat) (k : Nat) : chG E D iv (ks ++ [k]) = ((chG E D iv ks).1 ++ E (xorF (chG E D iv ks).2 ((D.drop (16 * k)).take 16)), E (xorF (chG E D iv ks).2 ((D.drop (16 * k)).take 16))) := by
  unfold chG
  rw [List.foldl_append]
  rfl
theorem chG_range (E : List UInt8 → List UInt8) (D iv : List UInt8) : ∀ n, chG E D iv (List.range n) = chL E iv D n
  | 0 => rfl
  | n + 1 => by rw [List.range_succ, chG_snoc, chG_range E D iv n, chL]
theorem chG_len {E : List UInt8 → List UInt8} (hE : ∀ xs, (E xs).length = 16) (D : List UInt8) {iv : List UInt8} (hiv : iv.length = 16) (ks : List Nat) : (chG E D iv ks).1.length = 16 * ks.length ∧ (chG E D iv ks).2.length = 16 := by
  unfold chG
  have : ∀ (ks : List Nat) (s : List UInt8 × List UInt8) (m : Nat), s.1.length = 16 * m → s.2.length = 16 →
      ((ks.foldl (fun s k => (s.1 ++ E (xorF s.2 ((D.drop (16 * k)).take 16)), E (xorF s.2 ((D.drop (16 * k)).take 16)))) s).1.length = 16 * (m + ks.length) ∧ (ks.foldl (fun s k => (s.1 ++ E (xorF s.2 ((D.drop (16 * k)).take 16)), E (xorF s.2 ((D.drop (16 * k)).take 16)))) s).2.length = 16) := by
    intro ks
    induction ks with
    | nil => intro s m h1 h2; exact ⟨by simpa using h1, h2⟩
    | cons k ks ih =>
      intro s m h1 h2
      rw [List.foldl_cons]
      have := ih (s.1 ++ E (xorF s.2 ((D.drop (16 * k)).take 16)), E (xorF s.2 ((D.drop (16 * k)).take 16))) (m + 1) (by simp only [List.length_append, h1, hE]; omega) (hE _)
      refine ⟨?_, this.2⟩
      rw [this.1, List.length_cons]; omega
  have h := this ks ([], iv) 0 rfl hiv
  simpa using h
theorem own_endsC {base : Nat} {e : TypeId} {size n : Nat} {v : Value} {w : World} {xs : List Value} (h : w.ownsRow base e size v n xs) : ∃ A c, v = .slice A n c := by
  rcases h.2 with ⟨rfl, rfl⟩ | ⟨g, cap, cur, rfl, _⟩
  · exact ⟨_, _, rfl⟩
  · exact ⟨_, _, rfl⟩
theorem own_blkC {β : Type} (b : Nat) (t : TypeId) (f : β → Array Value) : Own (fun (s : β) W => Blk W b t (f s)) := by
  rintro s X Y row hb hg hrow
  exact (grownBy_keeps_cells hg hrow hb rfl).trans hb
theorem rows_two {w : World} {g n c m d : Nat} {A B : Option Addr} {xs ys : List UInt8} {t : TypeId} (hg : Blk w g t #[.slice A n c, .slice B m d]) (hx : SB w A n c xs) (hy : SB w B m d ys) : RowsB w (some ⟨g, 0, none⟩) 2 2 [xs, ys] := by
  refine ⟨rfl, Nat.le_refl _, by decide, fun e => (by cases e), fun _ => ⟨g, 0, rfl, hg.lt, fun i hi => ?_⟩⟩
  have h2 : i = 0 ∨ i = 1 := by omega
  rcases h2 with rfl | rfl
  · refine ⟨A, c, ?_, ?_⟩
    · rw [hg.cell]; show some (Value.slice A n c) = _; rw [hx.len.symm]; rfl
    · have := hx; rw [hx.len.symm] at this; exact this
  · refine ⟨B, d, ?_, ?_⟩
    · rw [hg.cell]; show some (Value.slice B m d) = _; rw [hy.len.symm]; rfl
    · have := hy; rw [hy.len.symm] at this; exact this
set_option maxRecDepth 100000 in
set_option maxHeartbeats 4000000 in
theorem cbcSeal_any (B g nr : Nat) (T ws iv bs : List UInt8) (A : Option Addr) (n c : Nat) (w : World) (hK : KeyR w B g T ws nr) (h1 : 1 ≤ nr) (hnr : nr ≤ 14) (hiv : iv.length = 16) (hs : SB w A n c bs) (hn : n ≤ 1000) :
    Calls Try.prog 8 #[.pointer (some ⟨g, 0, none⟩), .agg (iv.map b8).toArray, .slice A n c] w (NewB 5 w (cbcF (encF T ws nr) iv bs)) := by
  obtain ⟨W0, HW0, hW0, hg0⟩ : ∃ W0 : World, Hid (W0 = ((w.alloc (.cells #[.pointer (some ⟨g, 0, none⟩)] 27)).alloc (.cells (iv.map b8).toArray 23)).alloc (.cells #[.slice none 0 0] 26)) ∧ W0.heap.size = w.heap.size + 3 ∧ Grows w W0 := ⟨_, lib_hid rfl, by simp, (((Grows.refl w).alloc _).alloc _).alloc _⟩
  have HB0 : Hid (Blk W0 w.heap.size 27 #[.pointer (some ⟨g, 0, none⟩)]) := by
    unfold Hid; rw [HW0.out]; have := ((Blk.new (w) 27 #[.pointer (some ⟨g, 0, none⟩)]).alloc (.cells (iv.map b8).toArray 23)).alloc (.cells #[.slice none 0 0] 26); simpa using this
  have HB1 : Hid (Blk W0 (w.heap.size + 1) 23 (iv.map b8).toArray) := by
    unfold Hid; rw [HW0.out]; have := (Blk.new (w.alloc (.cells #[.pointer (some ⟨g, 0, none⟩)] 27)) 23 (iv.map b8).toArray).alloc (.cells #[.slice none 0 0] 26); simpa using this
  have HB2 : Hid (Blk W0 (w.heap.size + 2) 26 #[.slice none 0 0]) := by
    unfold Hid; rw [HW0.out]; have := Blk.new ((w.alloc (.cells #[.pointer (some ⟨g, 0, none⟩)] 27)).alloc (.cells (iv.map b8).toArray 23)) 26 #[.slice none 0 0]; simpa using this
  obtain ⟨E, HE, hE⟩ : ∃ E : List UInt8 → List UInt8, Hid (encF T ws nr = E) ∧ Hid (∀ xs, (E xs).length = 16) := ⟨_, lib_hid rfl, lib_hid (fun xs => encF_len T ws nr xs)⟩
  have HK := lib_hid hK
  have HS := lib_hid hs
  have hbl0 := lib_hid hs.len
  have hcm := hs.max
  have hnc := hs.cap
  rw [HE.out]
  obtain ⟨cs, Hcs, hcs⟩ : ∃ cs, Hid ((iv.map b8).toArray = cs) ∧ cs.size = 16 := ⟨_, lib_hid rfl, by simp [hiv]⟩
  have hca : cs.all (·.oneCell') = true := by rw [← Hcs.out]; exact cells_all _
  rw [Hcs.out] at HB1 HW0 ⊢
  obtain ⟨p0, Hp0⟩ : ∃ p0, Hid (w.heap.size = p0) := ⟨_, lib_hid rfl⟩
  clear hK hs
  refine (callsIn_wide (n := 4)).1 ?_
  refine callsIn_of_wp_marks Try.func8 rfl trivial ?_ rfl
  refine wpIn_wide.2 ?_
  simp only [Try.ntmps8, List.size_toArray, List.length_cons, List.length_nil, Nat.reduceAdd, Nat.reduceSub, Array.replicate_succ, Array.replicate_zero, List.push_toArray, List.append_toArray, List.nil_append, List.cons_append]
  go_upto_region 2 with fail
  rw [← HW0.out]
  rw [Hp0.out] at HB0 HB1 HB2 hW0 ⊢
  have HBz : Hid (Blk (W0.alloc (.cells #[.int .u8 0, .int .u8 0, .int .u8 0, .int .u8 0, .int .u8 0, .int .u8 0, .int .u8 0, .int .u8 0, .int .u8 0, .int .u8 0, .int .u8 0, .int .u8 0, .int .u8 0, .int .u8 0, .int .u8 0, .int .u8 0] 23)) (p0 + 3) 23 #[.int .u8 0, .int .u8 0, .int .u8 0, .int .u8 0, .int .u8 0, .int .u8 0, .int .u8 0, .int .u8 0, .int .u8 0, .int .u8 0, .int .u8 0, .int .u8 0, .int .u8 0, .int .u8 0, .int .u8 0, .int .u8 0]) := by
    have := Blk.new W0 23 #[.int .u8 0, .int .u8 0, .int .u8 0, .int .u8 0, .int .u8 0, .int .u8 0, .int .u8 0, .int .u8 0, .int .u8 0, .int .u8 0, .int .u8 0, .int .u8 0, .int .u8 0, .int .u8 0, .int .u8 0, .int .u8 0]
    rw [hW0] at this
    exact lib_hid this
  go_upto_region 3 with (first
    | (refine wpList_load_blk rfl _ _ rfl (p0 + 1) rfl 23 cs _ HB1.out Try.underlying23 rfl (by rw [Try.size16, hcs]) ?_)
    | (refine wpList_store_blk rfl _ _ _ rfl (p0 + 3) cs rfl rfl 23 _ HBz.out (by rw [Try.size16, hcs]) (by rw [hcs]; rfl) hca (p0 + 3) W0 (by rw [← hW0]; exact (Below.refl _ W0).alloc (Nat.le_refl _) _) (Nat.le_refl _) ?_; intro w3 hB3 hb3 hg3))
  have HB3 := lib_hid hB3
  have hbl3 : p0 + 3 < w3.heap.size := hB3.lt
  have HG3 : Hid (Grows W0 w3) := by unfold Hid; rw [← hW0] at hb3; exact hb3
  have HG03 : Hid (Grows w w3) := lib_hid (hg0.trans HG3.out)
  have HB0' := lib_hid (HB0.out.grows HG3.out)
  have HB2' := lib_hid (HB2.out.grows HG3.out)
  clear hB3 hb3 hg3 HBz HB0 HB1 HB2 HW0 hca
  go_wp2_with fail
  refine (cbcPad_any n w3 (by omega)).mono ?_
  rintro e w4 ⟨Ap, mp, dp, rfl, hg4, hs4⟩
  have HG4 := lib_hid (HG3.out.trans hg4)
  have HG34' := lib_hid hg4
  have HS4 := lib_hid hs4
  clear hg4 hs4
  go_wp2_with fail
  obtain ⟨W4, HW4⟩ : ∃ W4, Hid (w4.alloc (.cells #[.slice A n c, .slice Ap mp dp] 26) = W4) := ⟨_, lib_hid rfl⟩
  obtain ⟨q4, Hq4⟩ : ∃ q4, Hid (w4.heap.size = q4) := ⟨_, lib_hid rfl⟩
  have HG4' : Hid (Grows W0 W4) := by unfold Hid; rw [← HW4.out]; exact HG4.out.alloc _
  have HG34 : Hid (Grows w3 W4) := by unfold Hid; rw [← HW4.out]; exact HG34'.out.alloc _
  have HRw : Hid (RowsB W4 (some ⟨q4, 0, none⟩) 2 2 [bs, padC n]) := by
    unfold Hid; rw [← HW4.out, ← Hq4.out]
    exact rows_two (Blk.new w4 26 _) ((HS.out.grows (hg0.trans HG4.out)).grows ((Grows.refl w4).alloc _)) (HS4.out.grows ((Grows.refl w4).alloc _))
  rw [HW4.out, Hq4.out]
  clear HS4 HW4
  refine (concat_any [bs, padC n] _ _ _ W4 HRw.out (by omega) (by show (bs ++ (padC n ++ [])).length ≤ _; rw [List.append_nil, List.length_append, padC_len, hbl0.out]; omega)).mono ?_
  rintro e w5 ⟨C, nc, cc, hnc5, rfl, hg5, ho5⟩
  obtain ⟨cnt, Hcnt⟩ : ∃ cnt, Hid (n / 16 + 1 = cnt) := ⟨_, lib_hid rfl⟩
  obtain ⟨D, HD⟩ : ∃ D, Hid (bs ++ padC n = D) := ⟨_, lib_hid rfl⟩
  have HDl : Hid (D.length = 16 * cnt) := by unfold Hid; rw [← HD.out, List.length_append, padC_len, hbl0.out, ← Hcnt.out]; omega
  have hfl : flatB [bs, padC n] = D := by show bs ++ (padC n ++ []) = D; rw [List.append_nil, HD.out]
  rw [hfl] at ho5 hnc5
  obtain rfl : nc = 16 * cnt := by rw [hnc5.out, HDl.out]
  have HG5 : Hid (Grows W0 w5) := lib_hid (HG4'.out.trans hg5)
  have HG45 := lib_hid hg5
  have HS5 := lib_hid (SB.own ho5)
  have hcnt : 1 ≤ cnt ∧ cnt ≤ 63 := by have := Hcnt.out; omega
  have hcc := HS5.out.max
  have hncc := HS5.out.cap
  have hc16 : (16 : Int) * (cnt : Int) = ((16 * cnt : Nat) : Int) := by omega
  have hclt := own_lt ho5
  have hW4 := HG4'.out.size
  clear hg5 ho5 hnc5 HRw hfl
  go_wp2_with fail
  refine (chunk_any C (16 * cnt) cc 16 w5 (by omega) (by omega)).mono ?_
  rintro e W2 ⟨bs1, bn1, rfl, hg6, hs1, hs2, hq1, hq2⟩
  have HG6 := lib_hid (HG5.out.trans hg6)
  have HG36 : Hid (Below (p0 + 4) w3 W2) := by
    have h34 : Below w3.heap.size w3 W2 := (HG34.out.trans (HG45.out.trans hg6))
    exact lib_hid (h34.mono (by omega))
  have HS6 := lib_hid (HS5.out.grows hg6)
  have Hq1 := lib_hid hq1
  have Hq2 := lib_hid hq2
  have hsz6 := hg6.size
  clear hg6 hq1 hq2
  go_wp2
  obtain ⟨cb, co, rfl, hcbl, _⟩ := HS6.out.2.2.2.2 (by omega)
  have hcb := hclt cb rfl
  obtain ⟨bo, Hbo⟩ : ∃ bo, Hid (p0 + 1 + 1 = bo) := ⟨_, lib_hid rfl⟩
  obtain ⟨bl, Hbl⟩ : ∃ bl, Hid (p0 + 3 = bl) := ⟨_, lib_hid rfl⟩
  rw [Hbl.out] at HB3
  have hbo2 : p0 + 2 = bo := Hbo.out
  rw [hbo2] at HB2'
  rw [Hbo.out, Hbl.out]
  have HBO : Hid (Blk W2 bo 26 #[.slice none 0 0]) := by
    have := HB2'.out
    exact lib_hid (this.below (HG36.out) (by have := Hbo.out; omega))
  have HBL : Hid (Blk W2 bl 23 (iv.map b8).toArray) := by
    rw [Hcs.out]
    exact lib_hid (HB3.out.below HG36.out (by have := Hbl.out; omega))
  have HBK : Hid (Blk W2 p0 27 #[.pointer (some ⟨g, 0, none⟩)]) := lib_hid (HB0'.out.below HG36.out (by omega))
  have hW2 : p0 + 4 ≤ W2.heap.size := by have := HBL.out.lt; have := Hbl.out; omega
  have HGw2 : Hid (Grows w W2) := lib_hid (hg0.trans HG6.out)
  obtain ⟨own, Hown⟩ : ∃ own : Nat → Prop, Hid (own = fun b => b = bo ∨ b = bl ∨ W2.heap.size ≤ b) := ⟨_, lib_hid rfl⟩
  have ho : ∀ l, W2.heap.size ≤ l → own l := fun l hl => by rw [Hown.out]; exact .inr (.inr hl)
  have hown0 : ∀ i, own i → p0 + 2 ≤ i := fun i hi => by
    rw [Hown.out] at hi
    have := Hbo.out; have := Hbl.out
    rcases hi with hi | hi | hi <;> omega
  have hne : ∀ i, i < W2.heap.size → p0 + 4 ≤ i → ¬ own i := fun i h1 h2 hi => by
    rw [Hown.out] at hi
    have := Hbo.out; have := Hbl.out
    rcases hi with hi | hi | hi <;> omega
  have hw5 : p0 + 4 ≤ w5.heap.size := by have := hcb.1; have := hcb.2; have := HG34.out.size; omega
  have hn1 : ¬ own bs1 := hne bs1 Hq1.out.lt (by omega)
  have hn2 : ¬ own bn1 := hne bn1 Hq2.out.lt (by omega)
  have hn3 : ¬ own cb := hne cb hcbl (by have := hcb.1; have := HG34.out.size; omega)
  have HSt := lib_hid (chunk_stops (some ⟨cb, co, none⟩) 3 bs1 bn1 cb co cc 16 cnt own W2 (by omega) (by omega) (by omega) (by omega) hncc hcc (fun _ => rfl) Hq1.out Hq2.out hn1 hn2)
  have HEn : Hid (∀ (xs : List UInt8) (W' : World), xs.length = 16 → Keeps own W2 W' → Calls Try.prog 13 #[.pointer (some ⟨g, 0, none⟩), .agg (xs.map b8).toArray] W' fun e w' => e = .returned (.agg ((E xs).map b8).toArray) ∧ Grows W' w') := fun xs W' hx hW => by
    have hKw : KeyR W' B g T ws nr := by
      have hB : B ≤ w.heap.size := by obtain ⟨_, _, _, _, _, _, h, _⟩ := HK.out; exact h
      have hb1 : Below w.heap.size w W' := Below.trans HGw2.out (hW.below HGw2.out.size (fun i hi => by have := hown0 i hi; have := Hp0.out; omega))
      exact HK.out.below (hb1.mono hB)
    have := encrypt_any B g nr T ws xs W' hKw hx h1 hnr
    rw [HE.out] at this
    exact this
  have HR : Hid (∀ (k : Nat) (W : World), k < cnt → Keeps own W2 W → SB W (some ⟨cb, co + 16 * k, none⟩) 16 16 ((D.drop (16 * k)).take 16)) := fun k W hk hW => by
    have hs := HS6.out.keeps hW (fun p e => by cases e; exact hn3)
    exact sb_partC hs rfl (16 * k) 16 16 (by omega) (by unfold maxLen; omega) (by omega)
  refine (wpIn_wide (n := 4)).1 ?_
  refine wpIn_rangeFunc_ownF rfl (by decide) (gf := 46) (lb := #[.pointer (some ⟨bs1, 0, none⟩), .pointer (some ⟨bn1, 0, none⟩)]) rfl trivial (enters_of Try.func46 (by kernel_rfl) rfl)
    HSt.out keepsK_tC (keepsK_bC ho) (Below.refl _ _) (fun _ => rfl)
    (fun pre W => (∃ v, Boxed W bo 26 v ∧ W.ownsRow W2.heap.size 5 1 v (16 * pre.length) ((chG E D iv (pre.map (·.val))).1.map b8) ∧ True) ∧ Blk W bl 23 ((chG E D iv (pre.map (·.val))).2.map b8).toArray ∧ Keeps own W2 W)
    (fun _ _ _ => False)
    (OwnFrom.and (Own.from (holdsRow_own W2.heap.size bo 26 5 1 (fun pre : List (Fin cnt) => 16 * pre.length) (fun pre => (chG E D iv (pre.map (·.val))).1.map b8) (fun _ _ => True)) _) (OwnFrom.and (Own.from (own_blkC bl 23 (fun pre : List (Fin cnt) => ((chG E D iv (pre.map (·.val))).2.map b8).toArray)) _) (ownFrom_keepsC W2 ho)))
    (fun _ _ _ _ _ hs _ _ => hs)
    ⟨⟨_, HBO.out, World.ownsRow_nil _ _ _ _, trivial⟩, HBL.out, Keeps.refl _ _⟩
    (fun x => { tmps := #[.pointer (some ⟨g, 0, none⟩), .agg cs, .slice A n c, .pointer (some ⟨p0, 0, none⟩), .pointer (some ⟨p0 + 1, 0, none⟩), undef, .slice none 0 0, .pointer (some ⟨bo, 0, none⟩),
                .pointer (some ⟨bl, 0, none⟩), chunkV cb co 16 x.val, .agg cs, .slice A n c, .slice A n c, .int .i64 ↑n, .slice Ap mp dp, .slice (some ⟨q4, 0, none⟩) 2 2, .slice (some ⟨cb, co, none⟩) (16 * cnt) cc,
                .func (.func 46) #[] #[.pointer (some ⟨bs1, 0, none⟩), .pointer (some ⟨bn1, 0, none⟩)], chunkV cb co 16 x.val, undef, undef, undef, undef, undef, undef, undef, undef, undef], defers := [] }) ?assign ?body ?done ?stop
  case assign =>
    intro l x W K hK
    unfold chunkV at hK ⊢
    gi_wp2
    exact hK
  case body =>
    rintro l pre x W ⟨⟨v, hbx, hown, _⟩, hbl, hkw⟩ hN
    generalize hQ : ownPostK _ _ _ _ _ = Q
    have hQo : ¬ LetsOut Q := by rw [← hQ]; exact fun ⟨_, _, h⟩ => h
    have hQo2 : ∀ K, ¬ LetsOut (Exit.then K (Exit.inBlock 1 Q)) := fun K ⟨_, _, h⟩ => hQo ⟨_, _, h⟩
    have hQo1 : ¬ LetsOut (Exit.inBlock 1 Q) := fun ⟨_, _, h⟩ => hQo ⟨_, _, h⟩
    have HQ := lib_hid hQ
    clear hQ
    obtain ⟨O, od, rfl⟩ := own_endsC hown
    obtain ⟨k, hk⟩ := x
    obtain ⟨q, Hq, hq8⟩ : ∃ q, Hid (pre.length = q) ∧ q ≤ 63 := ⟨_, lib_hid rfl, by omega⟩
    have hst := chG_len hE.out D hiv (pre.map (·.val))
    rw [List.length_map, Hq.out] at hst
    obtain ⟨o, Ho, hol⟩ : ∃ o : List UInt8, Hid ((chG E D iv (pre.map (·.val))).1 = o) ∧ Hid (o.length = 16 * q) := ⟨_, lib_hid rfl, lib_hid hst.1⟩
    obtain ⟨last, Hlast, lastl⟩ : ∃ last : List UInt8, Hid ((chG E D iv (pre.map (·.val))).2 = last) ∧ Hid (last.length = 16) := ⟨_, lib_hid rfl, lib_hid hst.2⟩
    rw [Ho.out, Hq.out] at hown
    rw [Hlast.out] at hbl
    rw [Hq.out] at hbx
    have HO := lib_hid hown
    have HL := lib_hid hbl
    have HK := lib_hid hkw
    have HBX := lib_hid hbx
    obtain ⟨part, Hpart⟩ : ∃ part, Hid ((D.drop (16 * k)).take 16 = part) := ⟨_, lib_hid rfl⟩
    obtain ⟨k16, Hk16⟩ : ∃ k16, Hid (co + 16 * k = k16) := ⟨_, lib_hid rfl⟩
    have hcv : chunkV cb co 16 k = .slice (some ⟨cb, k16, none⟩) 16 16 := by unfold chunkV; rw [Hk16.out]
    have HP : Hid (∀ W', Grows W W' → SB W' (some ⟨cb, k16, none⟩) 16 16 part) := fun W' hW' => by
      have := HR.out k W' hk (keepsK_tC HK.out (hW'.keeps own))
      rw [Hk16.out, Hpart.out] at this
      exact this
    obtain ⟨mx, Hmx⟩ : ∃ mx, Hid (xorF last part = mx) := ⟨_, lib_hid rfl⟩
    have hmxl : Hid (mx.length = 16) := by
      have := (HP.out W (Grows.refl W)).len
      unfold Hid; rw [← Hmx.out, xorF_len, lastl.out, this]; rfl
    obtain ⟨e1, He1, e1l⟩ : ∃ e1 : List UInt8, Hid (E mx = e1) ∧ Hid (e1.length = 16) := ⟨_, lib_hid rfl, lib_hid (hE.out mx)⟩
    have HM : Hid (∀ W', Grows W W' → Calls Try.prog 24 #[.agg (last.map b8).toArray, .slice (some ⟨cb, k16, none⟩) 16 16] W' fun e w' => e = .returned (.agg (mx.map b8).toArray) ∧ Grows W' w') := fun W' hW' => by
      have := cbcMixed_any last part (some ⟨cb, k16, none⟩) 16 W' lastl.out (HP.out W' hW')
      rw [Hmx.out] at this
      exact this
    have HE1 : Hid (∀ W', Grows W W' → Calls Try.prog 13 #[.pointer (some ⟨g, 0, none⟩), .agg (mx.map b8).toArray] W' fun e w' => e = .returned (.agg (e1.map b8).toArray) ∧ Grows W' w') := fun W' hW' => by
      have := HEn.out mx W' hmxl.out (keepsK_tC HK.out (hW'.keeps own))
      rw [He1.out] at this
      exact this
    have HC0 : Hid (∀ W', Grows W W' → W'.cell? ⟨p0, 0, none⟩ = some (.pointer (some ⟨g, 0, none⟩))) := fun W' hW' => by
      have := ((HBK.out.keeps HK.out (fun h => by have := hown0 _ h; omega)).grows hW')
      exact this.cell 0
    have HW2 : Hid (W2.heap.size ≤ W.heap.size) := HK.out.size
    rw [hcv]
    refine wpIn_block (wpIn_seq ?_)
    clear hbx hown hkw hcv hN HSt HR hst hbl
    apply wpIn_region_mono 5 ((.is _, []) :: (.is (.agg ((last).map b8).toArray), []) :: (.is _, []) :: (.is (.agg ((mx).map b8).toArray), []) :: (.is (.agg ((e1).map b8).toArray), []) :: []) (by kernel_rfl) (by kernel_rfl) (by kernel_rfl) (hQo2 _)
    apply Mono.is0
    · kernel_rfl
    · intro W hW
      have q2 := HC0.out W hW
      go_wp2
      refine ⟨rfl, rfl, Grows.refl _, ?_⟩
      unfold Oper.valAt
      go_simp
      rfl
    intro k1 a1 hk1 ha1
    simp only [Nat.reduceAdd] at hk1
    simp only [Act.put, List.setIfInBounds_toArray, List.set_cons_succ, List.set_cons_zero] at ha1
    subst hk1 ha1
    apply Mono.is0
    · kernel_rfl
    · intro W hW 
      go_wp2_with (refine wpList_load_blk (by kernel_rfl) _ _ rfl (bl) rfl 23 ((last).map b8).toArray _ (HL.out.grows hW) Try.underlying23 rfl (by rw [Try.size16]; simp [lastl.out]) ?_)
      exact ⟨rfl, rfl, Grows.refl _, rfl⟩
    intro k1 a1 hk1 ha1
    simp only [Nat.reduceAdd] at hk1
    simp only [Act.put, List.setIfInBounds_toArray, List.set_cons_succ, List.set_cons_zero] at ha1
    subst hk1 ha1
    apply Mono.is0
    · kernel_rfl
    · intro W hW
      go_wp2
      refine ⟨rfl, rfl, Grows.refl _, ?_⟩
      unfold Oper.valAt
      go_simp
      rfl
    intro k1 a1 hk1 ha1
    simp only [Nat.reduceAdd] at hk1
    simp only [Act.put, List.setIfInBounds_toArray, List.set_cons_succ, List.set_cons_zero] at ha1
    subst hk1 ha1
    apply Mono.is0
    · kernel_rfl
    · intro W hW 
      go_wp2_with fail
      refine (HM.out W hW).mono ?_
      rintro e w1 ⟨rfl, hg1⟩
      go_wp2
      exact ⟨rfl, rfl, hg1, rfl⟩
    intro k1 a1 hk1 ha1
    simp only [Nat.reduceAdd] at hk1
    simp only [Act.put, List.setIfInBounds_toArray, List.set_cons_succ, List.set_cons_zero] at ha1
    subst hk1 ha1
    apply Mono.is0
    · kernel_rfl
    · intro W hW 
      go_wp2_with fail
      refine (HE1.out W hW).mono ?_
      rintro e w1 ⟨rfl, hg1⟩
      go_wp2
      exact ⟨rfl, rfl, hg1, rfl⟩
    intro k1 a1 hk1 ha1
    simp only [Nat.reduceAdd] at hk1
    simp only [Act.put, List.setIfInBounds_toArray, List.set_cons_succ, List.set_cons_zero] at ha1
    subst hk1 ha1
    refine Mono.done ?_
    intro wm hgm
    simp only [allF, List.drop_succ_cons, List.drop_zero]
    have HLm := lib_hid (HL.out.grows hgm)
    have HOm := lib_hid (own_grows HO.out hgm)
    have HXm := lib_hid ((show Blk W bo 26 _ from HBX.out).grows hgm)
    have Hgm := lib_hid hgm
    have HC1 := lib_hid (cells_all e1)
    have hszm : W2.heap.size ≤ wm.heap.size := Nat.le_trans HW2.out hgm.size
    have hblm : bl < W2.heap.size := HBL.out.lt
    have hbom : bo < W2.heap.size := HBO.out.lt
    clear hgm HO HL HM HE1 HC0 HP HW2
    refine wpList_store_blk (by kernel_rfl) _ _ _ rfl bl (e1.map b8).toArray rfl rfl 23 _ HLm.out (by rw [Try.size16]; simp [e1l.out]) (by simp [e1l.out, lastl.out]) HC1.out bl wm (Below.refl _ _) (Nat.le_refl _) ?_
    intro w7 hB7 hb7 hg7
    have HL7 := lib_hid hB7
    have HG7 := lib_hid hg7
    have HK7 : Hid (Keeps (fun b => b = bl) wm w7) := lib_hid ((keeps_grown hg7).mono (fun i e _ => (Option.some.inj e).symm))
    have HO7 : Hid (w7.ownsRow W2.heap.size 5 1 (.slice O (16 * q) od) (16 * q) (o.map b8)) := lib_hid (own_keepsE HOm.out HK7.out (fun i hi e => by omega))
    have HX7 : Hid (Blk w7 bo 26 #[.slice O (16 * q) od]) := lib_hid (HXm.out.keeps HK7.out (by have := Hbo.out; have := Hbl.out; omega))
    have HC7 : Hid (∀ W', Grows w7 W' → W'.cell? ⟨bo, 0, none⟩ = some (.slice O (16 * q) od)) := fun W' hW' => (HX7.out.grows hW').cell 0
    have hsz7 : W2.heap.size ≤ w7.heap.size := Nat.le_trans hszm HK7.out.size
    clear hB7 hb7 hg7 HOm HXm HC1
    go_wp2
    apply wpIn_region_mono 2 ((.is _, []) :: (.is _, []) :: []) (by kernel_rfl) (by kernel_rfl) (by kernel_rfl) hQo1
    apply Mono.is0
    · kernel_rfl
    · intro W hW
      have q3 := HC7.out W hW
      go_wp2
      refine ⟨rfl, rfl, Grows.refl _, ?_⟩
      unfold Oper.valAt
      go_simp
      rfl
    intro k1 a1 hk1 ha1
    simp only [Nat.reduceAdd] at hk1
    simp only [Act.put, List.setIfInBounds_toArray, List.set_cons_succ, List.set_cons_zero] at ha1
    subst hk1 ha1
    apply Mono.is0
    · kernel_rfl
    · intro W hW
      go_wp2
      refine ⟨rfl, rfl, Grows.refl _, ?_⟩
      unfold Oper.valAt
      go_simp
      rfl
    intro k1 a1 hk1 ha1
    simp only [Nat.reduceAdd] at hk1
    simp only [Act.put, List.setIfInBounds_toArray, List.set_cons_succ, List.set_cons_zero] at ha1
    subst hk1 ha1
    refine Mono.done ?_
    intro wm_2 hgm
    simp only [allF, List.drop_succ_cons, List.drop_zero]
    have HL8 := lib_hid (HL7.out.grows hgm)
    have HO8 := lib_hid (own_grows HO7.out hgm)
    have HX8 := lib_hid (HX7.out.grows hgm)
    have Hgm8 := lib_hid hgm
    have hsz8 : W2.heap.size ≤ wm_2.heap.size := Nat.le_trans hsz7 hgm.size
    have HS8 : Hid (SB wm_2 (some ⟨bl, 0, none⟩) 16 16 e1) := by
      have := HL8.out.row (o := 0) (n := 16) (c := 16) (by omega) (by simp [e1l.out]) (by unfold maxLen; omega)
      rw [List.drop_zero, List.take_of_length_le (by simp [e1l.out])] at this
      exact lib_hid this
    clear hgm HL7 HO7 HX7 HC7
    refine wpList_append2 (by kernel_rfl) _ _ 26 rfl W2.heap.size 5 (.int .u8 0) 1 Try.underlying26 Try.infoByte rfl O od (16 * q) _ rfl HO8.out (some ⟨bl, 0, none⟩) 16 16 _ rfl HS8.out (b8_one e1) (by omega) (by omega) hsz8 ?_
    intro A' c' w9 ho9 hg9 hl9
    have hge : ∀ i, blkOf O = some i → W2.heap.size ≤ i := fun i hi => (own_lt HO8.out i hi).1
    have hcells := own_cellsC HO8.out
    have hneb : some bo ≠ blkOf O := fun e => by have := hge bo e.symm; omega
    have hnel : some bl ≠ blkOf O := fun e => by have := hge bl e.symm; omega
    have hb9 : Blk w9 bo 26 #[.slice O (16 * q) od] := HX8.out.grown hg9 hneb
    have hl9 : Blk w9 bl 23 (e1.map b8).toArray := HL8.out.grown hg9 hnel
    have c9 := hb9.cell 0
    have f9 := hb9.frozen 0
    have HB9 := lib_hid hb9
    have HL9 := lib_hid hl9
    have HO9 := lib_hid ho9
    have HG9 := lib_hid hg9
    have Hge := lib_hid hge
    have Hcells := lib_hid hcells
    clear hb9 hl9 ho9 hg9 hge hcells hneb hnel
    go_wp2
    rw [← HQ.out]
    have hK2 : Keeps own W (w9.setCell ⟨bo, 0, none⟩ (.slice A' (16 * q + 16) c')) := keepsK_tC (Hgm.out.keeps own) (keepsK_tC (HK7.out.mono (fun i e _ => by rw [Hown.out]; exact .inr (.inl e))) (keepsK_tC (Hgm8.out.keeps own) (keepsK_tC ((keeps_grown HG9.out).mono (fun i e _ => by rw [Hown.out]; exact .inr (.inr (Hge.out i e)))) ((keeps_set w9 ⟨bo, 0, none⟩ _).mono (fun i e _ => by rw [Hown.out]; exact .inl e)))))
    refine ⟨(Grows.othersC Hgm.out).trans ((KeepsOthers.of_grownBy HG7.out (fun j o e ho => by cases e; rw [show wm.heap[bl]? = _ from HLm.out] at ho; cases ho; rfl)).trans ((Grows.othersC Hgm8.out).trans ((KeepsOthers.of_grownBy HG9.out Hcells.out).trans (KeepsOthers.setCell _ _ _)))), hK2, ⟨_, Boxed.set _ HB9.out, ?_, trivial⟩, ?_, keepsK_tC HK.out hK2⟩
    · rw [List.length_append, List.map_append, List.map_cons, List.map_nil, chG_snoc, Ho.out, Hlast.out, Hpart.out, Hmx.out, He1.out, Hq.out, List.map_append]
      exact ownsRow_setCell_below HO9.out hbom _
    · rw [List.map_append, List.map_cons, List.map_nil, chG_snoc, Hlast.out, Hpart.out, Hmx.out, He1.out]
      exact HL9.out.keeps (keeps_set w9 ⟨bo, 0, none⟩ _) (fun e => by have := Hbo.out; have := Hbl.out; simp only at e; omega)
  case done =>
    rintro D' ys W hD rfl ⟨⟨v, hbx, hown, _⟩, hbl, hkw⟩ hK
    obtain ⟨O, e, rfl⟩ := own_endsC hown
    have hfr : (List.finRange cnt).map (·.val) = List.range cnt := by
      apply List.ext_getElem
      · simp
      · intro i h1 h2
        simp
    rw [List.length_finRange, hfr, chG_range] at hown
    rw [List.length_finRange] at hbx
    have c4 : W.cell? ⟨bo, 0, none⟩ = _ := hbx.cell
    have Hbx := lib_hid hbx
    have Ho := lib_hid hown
    have HK := lib_hid hkw
    clear hbx hown hkw HSt HR hbl
    go_wp2
    refine ⟨by simp, .inl ⟨_, _, rfl, run_takeDeferred hK, ?_⟩⟩
    have hgw : Grows w W := Below.trans HGw2.out (HK.out.below (B := w.heap.size) HGw2.out.size (fun i hi => by have := hown0 i hi; have := Hp0.out; omega))
    have hDw : w.heap.size ≤ D' := by have := HGw2.out.size; omega
    have hcl := (chL_len hE.out iv D hiv cnt).1
    have hF : cbcF E iv bs = (chL E iv D cnt).1 := by unfold cbcF; rw [hbl0.out, Hcnt.out, HD.out]
    refine ⟨_, results_tmp rfl _ _ _, O, 16 * cnt, e, lib_hid (by rw [hF, hcl]), rfl, Below.trans hgw (belowK_b (w := w) (Nat.le_refl _) W D' _ _ hDw hK rfl rfl), ?_⟩
    rw [hF]
    exact ownsRow_putObj (own_base Ho.out HGw2.out.size) _ hK rfl
  case stop =>
    rintro D c pre W _ _ h _
    exact h.elim
end Go.Proofs.Ythcmdjaccjghjaa
