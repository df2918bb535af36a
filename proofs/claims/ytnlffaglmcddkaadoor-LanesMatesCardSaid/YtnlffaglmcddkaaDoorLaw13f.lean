/-
  The law LanesMates.
-/
import Derived.Test.YtnlffaglmcddkaaDoorLAwake
import Derived.Deep.Cut
import Derived.RegionTactic
import Derived.BigRegion
import Derived.Deep.RegionLaw
import Derived.Deep.Slices
namespace Go.Proofs.YtnlffaglmcddkaaDoor
open Go Go.RowKit
set_option linter.unusedSimpArgs false
set_option linter.unusedVariables false

theorem step_append_at {P : Program} {ops : Array Oper} {o : Oper} {a : Act} {w : World} {K : Act → World → Prop} {Q : Exit → Act → World → Prop} {E : Prop}
    (hg : o.guard = none) (s x : Operand) (t tx : TypeId) (ho : o.op = .call { callee := .builtin .append, args := #[s, x], argTypes := #[t, tx] })
    (base : Nat) (e : TypeId) (z : Value) (bytes : Nat) (ht : P.underlying t = some (.slice e)) (hinfo : (P.info? e).map (fun i => (i.zero, i.size, i.bytes)) = some (some z, 1, bytes)) (hz1 : z.cells = #[z])
    (A : Option Addr) (n c : Nat) (xs : List Value) (hs : a.eval s = .slice A n c) (hown : OwnAt w base A n c xs) (xv : Value) (hx : a.eval x = xv) (m : Nat) (news : List Value) (hsrc : Src P 1 tx xv m news w)
    (hbytes : (n + m) * bytes ≤ 140737488355328) (hb : 0 < bytes) (hbase : base ≤ w.heap.size)
    (h : ∀ A' c' w', OwnAt w' base A' (n + m) c' (xs ++ news) → w.grownBy w' (blkOf A) → (blkOf A' = blkOf A ∨ blkOf A' = some w.heap.size) → K (a.put o.dst (.slice A' (n + m) c')) w') :
    if Region.wanted o (yielded ops a.tmps) = true then Oper.wp P o a w K Q else E := by
  have hw : Region.wanted o (yielded ops a.tmps) = true := by simp [Region.wanted, hg]
  rw [if_pos hw]
  obtain ⟨A', c', w', hrun, h2, h3, h4⟩ := run_append_at (P := P) (w := w) base t tx o.type e z bytes ht hinfo hz1 A n c xs hown xv m news hsrc hbytes hb hbase
  unfold Oper.wp
  simp only [execOp, ho, resolve, invoke, builtin, Sem.run_bind, Sem.run_pure, Result.andThen_ok, List.map_toArray, List.map_cons, List.map_nil, hs, hx, hrun]
  exact h A' c' w' h2 h3 h4

/-- Values that read as rows of bytes. -/
def RelL (W : World) : List Value → List (List UInt8) → Prop
  | [], [] => True
  | u :: us, b :: bs => (∃ Ai ci, u = .slice Ai b.length ci ∧ SB W Ai b.length ci b) ∧ RelL W us bs
  | _, _ => False
theorem RelL.grows {W W' : World} (hg : Grows W W') : ∀ {us : List Value} {bs : List (List UInt8)}, RelL W us bs → RelL W' us bs
  | [], [], _ => trivial
  | _ :: _, _ :: _, h => ⟨by obtain ⟨⟨Ai, ci, h1, h2⟩, _⟩ := h; exact ⟨Ai, ci, h1, h2.grows hg⟩, RelL.grows hg h.2⟩
  | [], _ :: _, h => h.elim
  | _ :: _, [], h => h.elim
theorem RelL.len {W : World} : ∀ {us : List Value} {bs : List (List UInt8)}, RelL W us bs → us.length = bs.length
  | [], [], _ => rfl
  | _ :: _, _ :: _, h => by rw [List.length_cons, List.length_cons, RelL.len h.2]
  | [], _ :: _, h => h.elim
  | _ :: _, [], h => h.elim
theorem RelL.app {W : World} : ∀ {us vs : List Value} {bs cs : List (List UInt8)}, RelL W us bs → RelL W vs cs → RelL W (us ++ vs) (bs ++ cs)
  | [], _, [], _, _, k => k
  | _ :: _, _, _ :: _, _, h, k => ⟨h.1, RelL.app h.2 k⟩
  | [], _, _ :: _, _, h, _ => h.elim
  | _ :: _, _, [], _, h, _ => h.elim
theorem RelL.take {W : World} : ∀ {us : List Value} {bs : List (List UInt8)} (k : Nat), RelL W us bs → RelL W (us.take k) (bs.take k)
  | _, _, 0, _ => by rw [List.take_zero, List.take_zero]; trivial
  | [], [], _ + 1, _ => by rw [List.take_nil, List.take_nil]; trivial
  | _ :: _, _ :: _, k + 1, h => ⟨h.1, RelL.take k h.2⟩
  | [], _ :: _, _, h => h.elim
  | _ :: _, [], _, h => h.elim
theorem RelL.drop {W : World} : ∀ {us : List Value} {bs : List (List UInt8)} (k : Nat), RelL W us bs → RelL W (us.drop k) (bs.drop k)
  | _, _, 0, h => h
  | [], [], _ + 1, _ => trivial
  | _ :: _, _ :: _, k + 1, h => RelL.drop k h.2
  | [], _ :: _, _, h => h.elim
  | _ :: _, [], _, h => h.elim
theorem RelL.at {W : World} : ∀ {us : List Value} {bs : List (List UInt8)} (i : Nat), RelL W us bs → i < us.length → ∃ Ai ci, us[i]? = some (.slice Ai (bs.getD i []).length ci) ∧ SB W Ai (bs.getD i []).length ci (bs.getD i [])
  | [], _, _, _, hi => by simp at hi
  | u :: us, b :: bs, 0, h, _ => by obtain ⟨⟨Ai, ci, h1, h2⟩, _⟩ := h; exact ⟨Ai, ci, by rw [h1]; rfl, h2⟩
  | u :: us, b :: bs, i + 1, h, hi => by
    obtain ⟨Ai, ci, h1, h2⟩ := RelL.at i h.2 (by simpa using hi)
    exact ⟨Ai, ci, h1, h2⟩
  | _ :: _, [], _, h, _ => h.elim
theorem RelL.one {W : World} {us : List Value} {bs : List (List UInt8)} (h : RelL W us bs) : ∀ u ∈ us, u.oneCell' = true := by
  intro u hu
  obtain ⟨i, hi⟩ := List.getElem?_of_mem hu
  obtain ⟨Ai, ci, h1, _⟩ := h.at i (List.getElem?_eq_some_iff.1 hi).1
  rw [hi] at h1
  rw [Option.some.inj h1]
  rfl
theorem rows_rel {W : World} {A : Option Addr} {n c : Nat} {ls : List (List UInt8)} (h : RowsB W A n c ls) : ∃ us, Row W A n c us ∧ RelL W us ls := by
  obtain ⟨h1, h2, h3, h4, h5⟩ := h
  by_cases hn : 0 < n
  · obtain ⟨b, off, e, hb, hc⟩ := h5 hn
    obtain ⟨v, hv⟩ := Go.Deep.choose_lt (α := Value) (n := n) (p := fun i u => W.cell? ⟨b, off + i, none⟩ = some u ∧ ∃ Ai ci, u = .slice Ai (ls.getD i []).length ci ∧ SB W Ai (ls.getD i []).length ci (ls.getD i [])) (fun i hi => by
      obtain ⟨Ai, ci, q1, q2⟩ := hc i hi
      exact ⟨_, q1, Ai, ci, rfl, q2⟩)
    refine ⟨(List.range n).map v, ⟨by simp, h2, h3, h4, fun _ => ⟨b, off, e, hb, fun j hj => ?_⟩⟩, ?_⟩
    · rw [(hv j hj).1, List.getElem?_map, List.getElem?_range hj]
      rfl
    · have key : ∀ (l : List (List UInt8)) (us : List Value), us.length = l.length → (∀ i, i < l.length → ∃ u, us[i]? = some u ∧ ∃ Ai ci, u = .slice Ai (l.getD i []).length ci ∧ SB W Ai (l.getD i []).length ci (l.getD i [])) → RelL W us l := by
        intro l
        induction l with
        | nil => intro us hl _; rw [List.eq_nil_of_length_eq_zero hl]; trivial
        | cons b l ih =>
          intro us hl hx
          cases us with
          | nil => simp at hl
          | cons u us =>
            obtain ⟨u0, q0, Ai, ci, q1, q2⟩ := hx 0 (by simp)
            obtain rfl := Option.some.inj q0
            refine ⟨⟨Ai, ci, q1, q2⟩, ih us (by simpa using hl) (fun i hi => ?_)⟩
            exact hx (i + 1) (by simpa using hi)
      refine key ls _ (by simp [h1]) (fun i hi => ⟨v i, ?_, (hv i (by omega)).2⟩)
      rw [List.getElem?_map, List.getElem?_range (by omega)]
      rfl
  · obtain rfl : n = 0 := by omega
    obtain rfl : ls = [] := List.eq_nil_of_length_eq_zero h1
    exact ⟨[], ⟨rfl, h2, h3, h4, fun h => absurd h (by omega)⟩, trivial⟩
theorem rel_rows {W : World} {A : Option Addr} {n c : Nat} {us : List Value} {ls : List (List UInt8)} (h : Row W A n c us) (hr : RelL W us ls) : RowsB W A n c ls := by
  refine ⟨by rw [← hr.len, h.1], h.2.1, h.2.2.1, h.2.2.2.1, fun hn => ?_⟩
  obtain ⟨b, off, e, hb, hc⟩ := h.2.2.2.2 hn
  refine ⟨b, off, e, hb, fun i hi => ?_⟩
  obtain ⟨Ai, ci, q1, q2⟩ := hr.at i (by rw [h.1]; exact hi)
  exact ⟨Ai, ci, by rw [hc i hi, q1], q2⟩
theorem own_zero {W : World} {base g : Nat} {t : TypeId} {cs : Array Value} (h : Blk W g t cs) (hb : base ≤ g) : OwnAt W base (some ⟨g, 0, none⟩) 0 0 [] :=
  ⟨rfl, Nat.le_refl _, Nat.zero_le _, .inr ⟨g, 0, t, cs, rfl, hb, h, Nat.zero_le _, by simp⟩⟩
set_option maxRecDepth 100000 in
set_option maxHeartbeats 4000000 in
theorem walk_LanesMates {tK : TypeId} (A : Option Addr) (n c : Nat) (ls : List (List UInt8)) (B : Option Addr) (m d : Nat) (bs : List UInt8) (at' : UInt8) (w : World) (HK : Hid (Blk w 0 tK (shaK.map b32).toArray)) (hs : RowsB w A n c ls) (hb : SB w B m d bs) :
    Calls Tryd.prog 7 #[.slice A n c, .slice B m d, .int .u8 (at'.toNat : Int)] w fun e w' => e = .returned (.bool true) ∧ Grows w w' := by
  have HS := lib_hid hs
  have HB := lib_hid hb
  have hll := lib_hid hs.1
  have hbl := lib_hid hb.len
  have hcap := hs.2.2.1
  unfold maxLen at hcap
  have hnc := hs.2.1
  have hdm := hb.max
  unfold maxLen at hdm
  have hmd := hb.cap
  have HLi := lib_hid (light_any ls A n c w hs)
  obtain ⟨an, han, Han⟩ : ∃ an : Nat, (at'.toNat : Int) = (an : Int) ∧ Hid (an < 256) := ⟨_, rfl, at'.toNat_lt⟩
  rw [han]
  have hanb : (an : Int) < 256 := by have := Han.out; omega
  clear hs hb han
  by_cases hlight : lightB ls = true
  rotate_left
  · have hno : lightB ls = false := by simpa using hlight
    rw [hno] at HLi
    clear hlight
    go_enter Tryd.func7, Tryd.ntmps7
    go_wp2_with fail
    refine HLi.out.mono ?_
    rintro e w1 ⟨rfl, rfl⟩
    go_wp2
    go_ret
    exact ⟨rfl, Grows.refl _⟩
  obtain ⟨h20, h400⟩ := lightB_yes hlight
  rw [hlight] at HLi
  by_cases hbig : 400 < m
  · have hbi : (400 : Int) < (m : Int) := by omega
    clear hlight h20 h400 hbig
    go_enter Tryd.func7, Tryd.ntmps7
    go_wp2_with fail
    refine HLi.out.mono ?_
    rintro e w1 ⟨rfl, rfl⟩
    go_wp2
    go_ret
    exact ⟨rfl, Grows.refl _⟩
  have hbi : ¬ (400 : Int) < (m : Int) := by omega
  have Hm4 := lib_hid (Nat.not_lt.1 hbig)
  have Hn20 : Hid (n ≤ 20) := by unfold Hid; rw [← hll.out]; exact h20
  have H4 := lib_hid h400
  have hni : (n : Int) ≤ 20 := by have := Hn20.out; omega
  obtain ⟨k, hk1, hk2, Hk⟩ : ∃ k : Nat, (an : Int) % ((n : Int) + 1) = (k : Int) ∧ (an : Int).tmod ((n : Int) + 1) = (k : Int) ∧ Hid (k ≤ n) := by
    have hlt := Nat.mod_lt an (show n + 1 > 0 by omega)
    have e : (an : Int) % ((n : Int) + 1) = ((an % (n + 1) : Nat) : Int) := by
      rw [show (n : Int) + 1 = ((n + 1 : Nat) : Int) by omega]; exact (Int.natCast_emod an (n + 1)).symm
    exact ⟨an % (n + 1), e, by rw [Int.tmod_eq_emod_of_nonneg (by omega)]; exact e, by unfold Hid; omega⟩
  have hkn : (k : Int) ≤ (n : Int) := by have := Hk.out; omega
  obtain ⟨sm, Hsm⟩ : ∃ sm, Hid (sumS shaK bs = sm) := ⟨_, lib_hid rfl⟩
  have hsml : Hid (sm.length = 32) := by unfold Hid; rw [← Hsm.out]; exact sumS_len _ _
  obtain ⟨sv, Hsv⟩ : ∃ sv : Array Value, Hid ((sm.map b8).toArray = sv) := ⟨_, lib_hid rfl⟩
  have HSh : Hid (∀ W, Grows w W → Calls Tryd.prog 17 #[.slice B m d] W fun e w' => e = .returned (.agg sv) ∧ Grows W w') := fun W hW => by
    have h := shaSum_any shaK B m d bs W shaK_len (lib_hid (HK.out.grows hW)) (HB.out.grows hW) (by have := Hm4.out; omega)
    rw [Hsm.out, Hsv.out] at h
    exact h
  have HE : Hid (∀ W : World, (Op.equalIn 10000 32 (.agg sv) (.agg sv)).run Tryd.prog W = .ok true W) := fun W => by
    rw [← Hsv.out, run_equalIn_bytes W 9998 32 5 32 sm sm hsml.out hsml.out Tryd.underlying32 Tryd.underlying5 Tryd.sizeByte, beq_self_eq_true]
  have HAw : Hid (∀ W, Grows w W → Calls Tryd.prog 13 #[] W fun e w' => e = .returned (.bool true) ∧ Grows W w') := fun W hW => awake13_any W (lib_hid (HK.out.grows hW))
  have HSu : Hid (∀ W (C : Option Addr) (q e : Nat) (l : List (List UInt8)), Grows w W → RowsB W C q e l → q ≤ 30 → (∀ b ∈ l, b.length ≤ 400) → Calls Tryd.prog 10 #[.slice C q e] W fun ee w' => ∃ go T : Nat, ee = .returned (.tuple #[.slice (some ⟨go, 0, none⟩) q q, .int .i64 (T : Int)]) ∧ Grows W w' ∧ Blk w' go 32 ((flatB (l.map (sumS shaK))).map b8).toArray ∧ (1 ≤ q → 1 ≤ T)) := fun W C q e l hW hr hq h4 => by
    refine (sums_any shaK shaK_len l C q e W (lib_hid (HK.out.grows hW)) hr (by omega) h4).mono ?_
    rintro ee w' ⟨go, q1, q2, _, q4⟩
    refine ⟨go, _, q1, q2, q4, fun h1 => ?_⟩
    have := maxF_ge (blkL (lensL l)) q 0 (by omega)
    have := blkL_pos (lensL l) 0
    omega
  obtain ⟨us, hus, hrel⟩ := rows_rel HS.out
  have Hus1 := lib_hid (hus.pre Hk.out)
  have Hus2 := lib_hid (hus.frm Hk.out)
  have Hrel := lib_hid hrel
  have Hul := lib_hid hus.1
  have HALL : Hid (RelL w (us.take k ++ [.slice B m d] ++ us.drop k) (ls.take k ++ [bs] ++ ls.drop k)) := lib_hid (((hrel.take k).app (show RelL w [.slice B m d] [bs] from ⟨⟨B, d, by rw [hbl.out], by rw [hbl.out]; exact HB.out⟩, trivial⟩)).app (hrel.drop k))
  have HAl : Hid ((ls.take k ++ [bs] ++ ls.drop k)[k]? = some bs) := by
    have hkl : k ≤ ls.length := by rw [hll.out]; exact Hk.out
    unfold Hid
    rw [List.append_assoc, List.getElem?_append_right (by rw [List.length_take]; omega), List.length_take, Nat.min_eq_left hkl, Nat.sub_self]
    rfl
  have HA4 : Hid (∀ b ∈ (ls.take k ++ [bs] ++ ls.drop k), b.length ≤ 400) := fun b hb => by
    rw [List.mem_append, List.mem_append, List.mem_singleton] at hb
    rcases hb with (hb | rfl) | hb
    · exact H4.out b (List.mem_of_mem_take hb)
    · rw [hbl.out]; exact Hm4.out
    · exact H4.out b (List.mem_of_mem_drop hb)
  clear hlight h20 h400 hbig hus hrel
  go_enter Tryd.func7, Tryd.ntmps7
  go_wp2_with fail
  refine HLi.out.mono ?_
  rintro e w1 ⟨rfl, rfl⟩
  go_upto_region 4 with fail
  clear hk1 hk2 hbi hanb
  have hkc : k ≤ c := Nat.le_trans Hk.out hnc
  have hk20 : k ≤ 20 := Nat.le_trans Hk.out Hn20.out
  have hnk : n - k ≤ 20 := Nat.le_trans (Nat.sub_le _ _) Hn20.out
  have h1a : Hid (∀ u ∈ us.take k, u.oneCell' = true) := fun u hu => Hrel.out.one u (List.mem_of_mem_take hu)
  have h1b : Hid (∀ u ∈ us.drop k, u.oneCell' = true) := fun u hu => Hrel.out.one u (List.mem_of_mem_drop hu)
  have h1c : Hid (∀ u ∈ [Value.slice B m d], u.oneCell' = true) := fun u hu => by rw [List.mem_singleton.1 hu]; rfl
  have HXa : Hid (Grows w ((w.alloc (.cells #[] 28)).drew)) := lib_hid ((((Grows.refl w).alloc _)).drew)
  have HXb : Hid (Grows w (((w.alloc (.cells #[] 28)).alloc (.cells #[.slice B m d] 28)).drew)) := lib_hid ((((Grows.refl w).alloc _).alloc _).drew)
  have HXc : Hid (Grows w (((w.alloc (.cells #[.slice B m d] 28)).alloc (.cells #[] 28)).drew)) := lib_hid ((((Grows.refl w).alloc _).alloc _).drew)
  have HOa : Hid (OwnAt ((w.alloc (.cells #[] 28)).drew) w.heap.size (some ⟨w.heap.size, 0, none⟩) 0 0 []) := lib_hid (own_zero (Blk.new w 28 #[]).drew (Nat.le_refl _))
  have HOb : Hid (OwnAt (((w.alloc (.cells #[] 28)).alloc (.cells #[.slice B m d] 28)).drew) w.heap.size (some ⟨w.heap.size, 0, none⟩) 0 0 []) := lib_hid (own_zero ((Blk.new w 28 #[]).alloc (.cells #[.slice B m d] 28)).drew (Nat.le_refl _))
  have HOc : Hid (OwnAt (((w.alloc (.cells #[.slice B m d] 28)).alloc (.cells #[] 28)).drew) w.heap.size (some ⟨w.heap.size + 1, 0, none⟩) 0 0 []) := lib_hid (by have h := own_zero (base := w.heap.size) (Blk.new (w.alloc (.cells #[.slice B m d] 28)) 28 #[]).drew (by simp); simpa using h)
  have HBb : Hid (Blk (((w.alloc (.cells #[] 28)).alloc (.cells #[.slice B m d] 28)).drew) (w.heap.size + 1) 28 #[.slice B m d]) := lib_hid (by have h := (Blk.new (w.alloc (.cells #[] 28)) 28 #[.slice B m d]).drew; simpa using h)
  have HBc : Hid (Blk (((w.alloc (.cells #[.slice B m d] 28)).alloc (.cells #[] 28)).drew) w.heap.size 28 #[.slice B m d]) := lib_hid ((Blk.new w 28 #[.slice B m d]).alloc (.cells #[] 28)).drew
  have HRa : Hid (Row ((w.alloc (.cells #[] 28)).drew) A k c (us.take k)) := lib_hid (Hus1.out.grows HXa.out)
  have hza : w.heap.size ≤ ((w.alloc (.cells #[] 28)).drew).heap.size := HXa.out.le
  have HRb : Hid (Row (((w.alloc (.cells #[] 28)).alloc (.cells #[.slice B m d] 28)).drew) A k c (us.take k)) := lib_hid (Hus1.out.grows HXb.out)
  have hzb : w.heap.size ≤ (((w.alloc (.cells #[] 28)).alloc (.cells #[.slice B m d] 28)).drew).heap.size := HXb.out.le
  have HRc : Hid (Row (((w.alloc (.cells #[.slice B m d] 28)).alloc (.cells #[] 28)).drew) A k c (us.take k)) := lib_hid (Hus1.out.grows HXc.out)
  have hzc : w.heap.size ≤ (((w.alloc (.cells #[.slice B m d] 28)).alloc (.cells #[] 28)).drew).heap.size := HXc.out.le
  go_region_law (first | (refine step_append_at rfl (.tmp 27) (.tmp 30) 22 22 rfl w.heap.size 28 (.slice none 0 0) 24 Tryd.underlying22 Tryd.infoT rfl (some ⟨w.heap.size, 0, none⟩) 0 0 [] rfl HOa.out (.slice A k c) rfl k (us.take k) (Row.src HRa.out Tryd.underlying22 h1a.out) (by omega) (by omega) hza ?_; intro A1 c1 w1 hO1 hG1 hl1; rw [Nat.zero_add, List.nil_append] at hO1; rw [Nat.zero_add]; have HG1 : Hid (Grows w w1) := lib_hid (HXa.out.grown hG1 (fun b hb => by cases hb; simp)); have HO1 : Hid (OwnAt (w1.alloc (.cells #[.slice B m d] 28)) w.heap.size A1 k c1 (us.take k)) := lib_hid (hO1.grows ((Grows.refl _).alloc _)); have HR1 : Hid (Row (w1.alloc (.cells #[.slice B m d] 28)) (some ⟨w1.heap.size, 0, none⟩) 1 1 [.slice B m d]) := lib_hid ((Blk.new w1 28 #[.slice B m d]).row (o := 0) (n := 1) (c := 1) (Nat.le_refl _) (by simp) (by decide)); have HG1' : Hid (Grows w (w1.alloc (.cells #[.slice B m d] 28))) := lib_hid (HG1.out.alloc _); have hz1 := HG1'.out.le; clear hO1 hG1 hl1) | (refine step_append_at rfl (.tmp 27) (.tmp 30) 22 22 rfl w.heap.size 28 (.slice none 0 0) 24 Tryd.underlying22 Tryd.infoT rfl (some ⟨w.heap.size, 0, none⟩) 0 0 [] rfl HOb.out (.slice A k c) rfl k (us.take k) (Row.src HRb.out Tryd.underlying22 h1a.out) (by omega) (by omega) hzb ?_; intro A1 c1 w1 hO1 hG1 hl1; rw [Nat.zero_add, List.nil_append] at hO1; rw [Nat.zero_add]; have HG1 : Hid (Grows w w1) := lib_hid (HXb.out.grown hG1 (fun b hb => by cases hb; simp)); have HO1 : Hid (OwnAt w1 w.heap.size A1 k c1 (us.take k)) := lib_hid hO1; have HR1 : Hid (Row w1 (some ⟨w.heap.size + 1, 0, none⟩) 1 1 [.slice B m d]) := lib_hid ((HBb.out.grown hG1 (by simp [blkOf])).row (o := 0) (n := 1) (c := 1) (Nat.le_refl _) (by simp) (by decide)); have HG1' : Hid (Grows w w1) := HG1; have hz1 := HG1.out.le; clear hO1 hG1 hl1) | (refine step_append_at rfl (.tmp 27) (.tmp 30) 22 22 rfl w.heap.size 28 (.slice none 0 0) 24 Tryd.underlying22 Tryd.infoT rfl (some ⟨w.heap.size + 1, 0, none⟩) 0 0 [] rfl HOc.out (.slice A k c) rfl k (us.take k) (Row.src HRc.out Tryd.underlying22 h1a.out) (by omega) (by omega) hzc ?_; intro A1 c1 w1 hO1 hG1 hl1; rw [Nat.zero_add, List.nil_append] at hO1; rw [Nat.zero_add]; have HG1 : Hid (Grows w w1) := lib_hid (HXc.out.grown hG1 (fun b hb => by cases hb; simp)); have HO1 : Hid (OwnAt w1 w.heap.size A1 k c1 (us.take k)) := lib_hid hO1; have HR1 : Hid (Row w1 (some ⟨w.heap.size, 0, none⟩) 1 1 [.slice B m d]) := lib_hid ((HBc.out.grown hG1 (by simp [blkOf])).row (o := 0) (n := 1) (c := 1) (Nat.le_refl _) (by simp) (by decide)); have HG1' : Hid (Grows w w1) := HG1; have hz1 := HG1.out.le; clear hO1 hG1 hl1) | (refine step_append_at rfl (.tmp 31) (.tmp 33) 22 22 rfl w.heap.size 28 (.slice none 0 0) 24 Tryd.underlying22 Tryd.infoT rfl A1 k c1 (us.take k) rfl HO1.out _ rfl 1 [.slice B m d] (Row.src HR1.out Tryd.underlying22 h1c.out) (by omega) (by omega) hz1 ?_; intro A2 c2 w2 hO2 hG2 hl2; have HA1 : Hid (∀ b, blkOf A1 = some b → w.heap.size ≤ b) := lib_hid (fun b hb => (blkOf_sub HO1.out b hb).1); have HG2 : Hid (Grows w w2) := lib_hid (HG1'.out.grown hG2 (fun b hb => HA1.out b hb)); have HO2 := lib_hid hO2; have HR2 : Hid (Row w2 (if c = k then A else Option.map (fun x => x.add k) A) (n - k) (c - k) (us.drop k)) := lib_hid (Hus2.out.grows HG2.out); have hz2 := HG2.out.le; clear hO2 hG2 hl2) | (refine step_append_at rfl (.tmp 34) (.tmp 37) 22 22 rfl w.heap.size 28 (.slice none 0 0) 24 Tryd.underlying22 Tryd.infoT rfl A2 (k + 1) c2 (us.take k ++ [.slice B m d]) rfl HO2.out (.slice (if c = k then A else Option.map (fun x => x.add k) A) (n - k) (c - k)) rfl (n - k) (us.drop k) (Row.src HR2.out Tryd.underlying22 h1b.out) (by omega) (by omega) hz2 ?_; intro A3 c3 w3 hO3 hG3 hl3; have HA2 : Hid (∀ b, blkOf A2 = some b → w.heap.size ≤ b) := lib_hid (fun b hb => (blkOf_sub HO2.out b hb).1); have HG3 : Hid (Grows w w3) := lib_hid (HG2.out.grown hG3 (fun b hb => HA2.out b hb)); have HO3 := lib_hid hO3; clear hO3 hG3 hl3))
  all_goals
    obtain ⟨q, Hq⟩ : ∃ q, Hid (k + 1 + (n - k) = q) := ⟨_, lib_hid rfl⟩
    have hO := HO3.out
    rw [Hq.out] at hO ⊢
    obtain ⟨PB, HPB⟩ : ∃ PB, Hid ((if c = k then A else Option.map (fun x : Addr => x.add k) A) = PB) := ⟨_, lib_hid rfl⟩
    rw [HPB.out]
    clear HPB
    have HRB := lib_hid (rel_rows hO.row (HALL.out.grows HG3.out))
    have hq30 : q ≤ 30 := by have := Hq.out; omega
    have hki : (k : Int) < (q : Int) := by have := Hq.out; omega
    have hqi : (q : Int) ≤ 30 := by omega
    have HC := lib_hid (HSu.out w3 A3 q c3 _ HG3.out HRB.out hq30 HA4.out)
    have Hg3 := HG3
    clear hO HO3 HG3 HRB HO2 HR2 HG2 HO1 HR1 HG1 HG1' HA1 HA2 HXa HXb HXc HOa HOb HOc HBb HBc HRa HRb HRc Hus1 Hus2 Hrel Hul HALL h1a h1b h1c hza hzb hzc hz1 hz2 hnk hkc hk20 HS H4 HLi
    go_wp2_with fail
    refine HC.out.mono ?_
    rintro ee w4 ⟨go, T, rfl, hg4, hb4, _⟩
    have HB4 := lib_hid hb4
    have Hg4 := lib_hid (Hg3.out.trans hg4)
    have HR4 : Hid (RowsB (w4.alloc (.cells #[.slice B m d] 28)) (some ⟨w4.heap.size, 0, none⟩) 1 1 [bs]) := lib_hid (rel_rows (us := [.slice B m d]) ((Blk.new w4 28 #[.slice B m d]).row (o := 0) (n := 1) (c := 1) (Nat.le_refl _) (by simp) (by decide)) ⟨⟨B, d, by rw [hbl.out], by rw [hbl.out]; exact HB.out.grows (Hg4.out.alloc _)⟩, trivial⟩)
    have Hg4a : Hid (Grows w (w4.alloc (.cells #[.slice B m d] 28))) := lib_hid (Hg4.out.alloc _)
    have HC2 := lib_hid (HSu.out (w4.alloc (.cells #[.slice B m d] 28)) (some ⟨w4.heap.size, 0, none⟩) 1 1 [bs] Hg4a.out HR4.out (by omega) (fun b hb => by rw [List.mem_singleton.1 hb, hbl.out]; exact Hm4.out))
    clear hg4 hb4 HC HSu HR4
    go_wp2_with fail
    refine HC2.out.mono ?_
    rintro ee w5 ⟨go2, T2, rfl, hg5, hb5, hT⟩
    have hT2 := hT (Nat.le_refl 1)
    have hTi : ¬ (T2 : Int) < 1 := by omega
    have Hg5 := lib_hid (Hg4a.out.trans hg5)
    have HLd : Hid (∀ W, Grows w5 W → ∀ p u, (sm.map b8)[p]? = some u → W.cell? ((⟨go, k * 32, none⟩ : Addr).add p) = some u) := fun W hW => out_load (HB4.out.grows (((Grows.refl _).alloc _).trans (hg5.trans hW))) (fun o ho => by obtain ⟨b, _, rfl⟩ := List.mem_map.1 ho; exact sumS_len _ _) k sm (by rw [List.getElem?_map, HAl.out, ← Hsm.out]; rfl) W (Grows.refl _)
    have HLd2 : Hid (∀ W, Grows w5 W → ∀ p u, (sm.map b8)[p]? = some u → W.cell? ((⟨go2, 0, none⟩ : Addr).add p) = some u) := fun W hW => by
      have h := out_load (hb5.grows hW) (fun o ho => by obtain ⟨b, _, rfl⟩ := List.mem_map.1 ho; exact sumS_len _ _) 0 sm (by rw [← Hsm.out]; rfl) W (Grows.refl _)
      rw [Nat.zero_mul] at h
      exact h
    clear hT hT2 hg5 hb5 HC2 HB4 HAl HA4
    go_upto_region 9 with fail
    clear hTi
    apply wp_region_mono 21 ((.is _, []) :: (.is _, []) :: (.is _, []) :: (.is (.agg sv), []) :: (.is _, []) :: (.is (.agg sv), []) :: (.is _, []) :: (.is _, []) :: (.is _, []) :: (.is _, []) :: (.is (.agg sv), []) :: (.is _, []) :: (.is _, []) :: (.is _, []) :: (.is (.agg sv), []) :: (.is _, []) :: (.is _, []) :: (.is _, []) :: (.is (.bool true), []) :: (.is _, []) :: (.is _, []) :: []) (by kernel_rfl) (by kernel_rfl)
    iterate 3
      apply Mono.is0
      · kernel_rfl
      · intro W hW
        go_wp2
        refine ⟨rfl, rfl, Grows.refl _, ?_⟩
        unfold Oper.valAt
        go_simp
        rfl
      intro k1 a1 hk1 ha1
      simp only [Nat.reduceAdd] at hk1
      simp only [Act.put, List.setIfInBounds_toArray, List.set_cons_succ, List.set_cons_zero] at ha1
      subst hk1 ha1
    apply Mono.is0
    · kernel_rfl
    · intro W hW 
      go_wp2_with (refine wpList_load_at (by kernel_rfl) _ _ rfl ⟨go, k * 32, none⟩ rfl (sm.map b8) _ Tryd.underlying32 rfl (by rw [Tryd.size32O, List.length_map, hsml.out]) (HLd.out W hW) ?_)
      rw [Hsv.out]
      exact ⟨rfl, rfl, Grows.refl _, rfl⟩
    intro k1 a1 hk1 ha1
    simp only [Nat.reduceAdd] at hk1
    simp only [Act.put, List.setIfInBounds_toArray, List.set_cons_succ, List.set_cons_zero] at ha1
    subst hk1 ha1
    apply Mono.is0
    · kernel_rfl
    · intro W hW
      go_wp2
      refine ⟨rfl, rfl, Grows.refl _, ?_⟩
      unfold Oper.valAt
      go_simp
      rfl
    intro k1 a1 hk1 ha1
    simp only [Nat.reduceAdd] at hk1
    simp only [Act.put, List.setIfInBounds_toArray, List.set_cons_succ, List.set_cons_zero] at ha1
    subst hk1 ha1
    apply Mono.is0
    · kernel_rfl
    · intro W hW 
      go_wp2_with fail
      refine (HSh.out W (Hg5.out.trans hW)).mono ?_
      rintro e1 w1 ⟨rfl, hg1⟩
      go_wp2
      exact ⟨rfl, rfl, hg1, rfl⟩
    intro k1 a1 hk1 ha1
    simp only [Nat.reduceAdd] at hk1
    simp only [Act.put, List.setIfInBounds_toArray, List.set_cons_succ, List.set_cons_zero] at ha1
    subst hk1 ha1
    apply Mono.is0
    · kernel_rfl
    · intro W hW
      have he := HE.out W
      go_wp2
      refine ⟨rfl, rfl, Grows.refl _, ?_⟩
      unfold Oper.valAt
      go_simp
      rfl
    intro k1 a1 hk1 ha1
    simp only [Nat.reduceAdd] at hk1
    simp only [Act.put, List.setIfInBounds_toArray, List.set_cons_succ, List.set_cons_zero] at ha1
    subst hk1 ha1
    iterate 3
      apply Mono.is0
      · kernel_rfl
      · intro W hW
        go_wp2
        refine ⟨rfl, rfl, Grows.refl _, ?_⟩
        unfold Oper.valAt
        go_simp
        rfl
      intro k1 a1 hk1 ha1
      simp only [Nat.reduceAdd] at hk1
      simp only [Act.put, List.setIfInBounds_toArray, List.set_cons_succ, List.set_cons_zero] at ha1
      subst hk1 ha1
    apply Mono.is0
    · kernel_rfl
    · intro W hW 
      go_wp2_with (refine wpList_load_at (by kernel_rfl) _ _ rfl ⟨go2, 0, none⟩ rfl (sm.map b8) _ Tryd.underlying32 rfl (by rw [Tryd.size32O, List.length_map, hsml.out]) (HLd2.out W hW) ?_)
      rw [Hsv.out]
      exact ⟨rfl, rfl, Grows.refl _, rfl⟩
    intro k1 a1 hk1 ha1
    simp only [Nat.reduceAdd] at hk1
    simp only [Act.put, List.setIfInBounds_toArray, List.set_cons_succ, List.set_cons_zero] at ha1
    subst hk1 ha1
    iterate 3
      apply Mono.is0
      · kernel_rfl
      · intro W hW
        go_wp2
        refine ⟨rfl, rfl, Grows.refl _, ?_⟩
        unfold Oper.valAt
        go_simp
        rfl
      intro k1 a1 hk1 ha1
      simp only [Nat.reduceAdd] at hk1
      simp only [Act.put, List.setIfInBounds_toArray, List.set_cons_succ, List.set_cons_zero] at ha1
      subst hk1 ha1
    apply Mono.is0
    · kernel_rfl
    · intro W hW 
      go_wp2_with (refine wpList_load_at (by kernel_rfl) _ _ rfl ⟨go, k * 32, none⟩ rfl (sm.map b8) _ Tryd.underlying32 rfl (by rw [Tryd.size32O, List.length_map, hsml.out]) (HLd.out W hW) ?_)
      rw [Hsv.out]
      exact ⟨rfl, rfl, Grows.refl _, rfl⟩
    intro k1 a1 hk1 ha1
    simp only [Nat.reduceAdd] at hk1
    simp only [Act.put, List.setIfInBounds_toArray, List.set_cons_succ, List.set_cons_zero] at ha1
    subst hk1 ha1
    apply Mono.is0
    · kernel_rfl
    · intro W hW
      have he := HE.out W
      go_wp2
      refine ⟨rfl, rfl, Grows.refl _, ?_⟩
      unfold Oper.valAt
      go_simp
      rfl
    intro k1 a1 hk1 ha1
    simp only [Nat.reduceAdd] at hk1
    simp only [Act.put, List.setIfInBounds_toArray, List.set_cons_succ, List.set_cons_zero] at ha1
    subst hk1 ha1
    iterate 2
      apply Mono.is0
      · kernel_rfl
      · intro W hW
        go_wp2
        refine ⟨rfl, rfl, Grows.refl _, ?_⟩
        unfold Oper.valAt
        go_simp
        rfl
      intro k1 a1 hk1 ha1
      simp only [Nat.reduceAdd] at hk1
      simp only [Act.put, List.setIfInBounds_toArray, List.set_cons_succ, List.set_cons_zero] at ha1
      subst hk1 ha1
    apply Mono.is0
    · kernel_rfl
    · intro W hW 
      go_wp2_with fail
      refine (HAw.out W (Hg5.out.trans hW)).mono ?_
      rintro e1 w1 ⟨rfl, hg1⟩
      go_wp2
      exact ⟨rfl, rfl, hg1, rfl⟩
    intro k1 a1 hk1 ha1
    simp only [Nat.reduceAdd] at hk1
    simp only [Act.put, List.setIfInBounds_toArray, List.set_cons_succ, List.set_cons_zero] at ha1
    subst hk1 ha1
    iterate 2
      apply Mono.is0
      · kernel_rfl
      · intro W hW
        go_wp2
        refine ⟨rfl, rfl, Grows.refl _, ?_⟩
        unfold Oper.valAt
        go_simp
        rfl
      intro k1 a1 hk1 ha1
      simp only [Nat.reduceAdd] at hk1
      simp only [Act.put, List.setIfInBounds_toArray, List.set_cons_succ, List.set_cons_zero] at ha1
      subst hk1 ha1
    refine Mono.done ?_
    intro wm hgm
    simp only [allF, List.drop_succ_cons, List.drop_nil]
    have hg6 := Hg5.out.trans hgm
    clear HLd HLd2 HSh HAw HE hgm
    go_wp2
    go_ret
    exact ⟨rfl, hg6⟩
end Go.Proofs.YtnlffaglmcddkaaDoor
