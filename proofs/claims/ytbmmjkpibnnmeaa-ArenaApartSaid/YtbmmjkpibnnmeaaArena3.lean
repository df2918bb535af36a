/-
  The walks of Gather, Read.
-/
import Derived.Test.YtbmmjkpibnnmeaaArena2
import Derived.Lib.SliceRun
import Derived.Deep.Cut
import Derived.Outline
namespace Go.Proofs.Ytbmmjkpibnnmeaa
open Go Go.RowKit
set_option linter.unusedSimpArgs false


/-- The bytes of a window's parts. -/
def partF (mem : List UInt8) (lo : Nat) (p : Int × Int) : List UInt8 := (mem.drop (lo + p.1.toNat)).take p.2.toNat
def gathF (mem : List UInt8) (lo : Nat) (l : List (Int × Int)) : List UInt8 := l.flatMap (partF mem lo)
theorem gathF_append (mem : List UInt8) (lo : Nat) (l m : List (Int × Int)) : gathF mem lo (l ++ m) = gathF mem lo l ++ gathF mem lo m := List.flatMap_append
theorem part_row {w : World} {m : Nat} {t : TypeId} {mem : List UInt8} {lo wd p q : Nat} (h : Blk w m t (mem.map b8).toArray) (hpq : p + q ≤ wd) (hlo : lo + wd ≤ mem.length) (hw : wd ≤ 4096) :
    SB w (partA m lo wd p) q (wd - p) (partF mem lo ((p : Int), (q : Int))) := by
  unfold partF partA
  simp only [Int.toNat_natCast]
  by_cases e : wd = p
  · obtain rfl : q = 0 := by omega
    rw [if_pos e, List.take_zero]
    exact Row.nil w _ (by unfold maxLen; omega) (fun h => by cases h)
  · rw [if_neg e]
    have := h.row (o := lo + p) (n := q) (c := wd - p) (by omega) (by simp; omega) (by unfold maxLen; omega)
    unfold SB
    simpa [List.map_take, List.map_drop] using this
theorem partF_len {mem : List UInt8} {lo wd p q : Nat} (hpq : p + q ≤ wd) (hlo : lo + wd ≤ mem.length) : (partF mem lo ((p : Int), (q : Int))).length = q := by
  unfold partF
  simp only [Int.toNat_natCast, List.length_take, List.length_drop]
  omega

/-- What stands in memory while bytes are gathered: the box g0 holds a slice of what is gathered. -/
def GathJ (w : World) (g0 : Nat) (mem : List UInt8) (lo : Nat) (l : List (Int × Int)) (j : Nat) (W : World) : Prop :=
  Grows w W ∧ g0 < W.heap.size ∧ ∃ C q e, Blk W g0 44 #[.slice C q e] ∧ Hid ((gathF mem lo (l.take j)).length = q) ∧ q ≤ 4096 * j ∧ W.ownsRow (g0 + 1) 5 1 (.slice C q e) q ((gathF mem lo (l.take j)).map b8)
theorem GathJ.grows {w : World} {g0 : Nat} {mem : List UInt8} {lo : Nat} {l : List (Int × Int)} {j : Nat} {W W' : World} (hg : Grows W W') (h : GathJ w g0 mem lo l j W) : GathJ w g0 mem lo l j W' := by
  obtain ⟨h1, h2, C, q, e, h3, h4, h5, h6⟩ := h
  exact ⟨h1.trans hg, Nat.lt_of_lt_of_le h2 hg.le, C, q, e, h3.grows hg, h4, h5, own_grows h6 hg⟩

set_option maxRecDepth 100000 in
set_option maxHeartbeats 4000000 in
theorem gather1_any (w : World) (g0 : Nat) (mem : List UInt8) (lo : Nat) (l : List (Int × Int)) (j : Nat) (P : Option Addr) (p q c : Nat) (W : World) (hg0 : w.heap.size ≤ g0) (hl : l[j]? = some ((p : Int), (q : Int))) (hj : j < 8) (hq : q ≤ 4096)
    (hlen : (partF mem lo ((p : Int), (q : Int))).length = q) (hJ : GathJ w g0 mem lo l j W) (hP : SB W P q c (partF mem lo ((p : Int), (q : Int)))) :
    Calls Try.prog 47 #[.slice P q c, .pointer (some ⟨g0, 0, none⟩)] W fun e W' => e = .returned (.tuple #[]) ∧ GathJ w g0 mem lo l (j + 1) W' := by
  obtain ⟨hg, hlt, C, s, e, hb, hs, hsb, ho⟩ := hJ
  obtain ⟨news, Hn⟩ : ∃ n, Hid (partF mem lo ((p : Int), (q : Int)) = n) := ⟨_, lib_hid rfl⟩
  rw [Hn.out] at hP hlen
  have Htk : Hid (gathF mem lo (l.take (j + 1)) = gathF mem lo (l.take j) ++ news) := by
    unfold Hid
    rw [List.take_add_one, hl, gathF_append, ← Hn.out]
    simp [gathF]
  obtain ⟨xs, Hxs⟩ : ∃ n, Hid (gathF mem lo (l.take j) = n) := ⟨_, lib_hid rfl⟩
  rw [Hxs.out] at ho hs Htk
  have c0 : W.cell? ⟨g0, 0, none⟩ = some (.slice C s e) := by rw [hb.cell]; rfl
  have HB := lib_hid hb
  have HO := lib_hid ho
  have HP := lib_hid hP
  have Hlt := lib_hid hlt
  have Hg := lib_hid hg
  have Hlen := lib_hid hlen
  clear hb ho hP hl hlen hg
  go_enter Try.func47, Try.ntmps47
  go_wp2_with (at_builtin; refine wpList_append rfl _ _ 44 rfl (g0 + 1) 5 (.int .u8 0) 1 Try.underlying44 Try.infoByte rfl _ s _ rfl HO.out _ _ _ (news.map b8) rfl HP.out (b8_one _) (by omega) (by omega) (by have := Hlt.out; omega) ?_; intro A3 c3 w3 ho3 hb3 hg3; have HB3 := lib_hid (HB.out.below hb3 (by omega)); have c3' := HB3.out.cell 0; have f3' := HB3.out.frozen 0; simp only [List.getElem?_toArray, List.getElem?_cons_zero] at c3'; have hz3 : g0 < w3.heap.size := HB3.out.lt)
  have hset := HB3.out.set 0 (.slice A3 (s + q) c3)
  have HS := lib_hid hset
  have hgw : Grows w (w3.setCell ⟨g0, 0, none⟩ (.slice A3 (s + q) c3)) := (Below.trans Hg.out (hb3.mono (by omega))).setCell (p := ⟨g0, 0, none⟩) hg0 _
  have ho5 : (w3.setCell ⟨g0, 0, none⟩ (.slice A3 (s + q) c3)).ownsRow (g0 + 1) 5 1 (.slice A3 (s + q) c3) (s + q) ((xs ++ news).map b8) := by
    rw [List.map_append]
    obtain ⟨o1, o2⟩ := ho3
    refine ⟨o1, ?_⟩
    rcases o2 with o2 | ⟨g, cap, cur, e1, e2, e3, r⟩
    · exact .inl o2
    · exact .inr ⟨g, cap, cur, e1, e2, (Below.heap_setCell w3 ⟨g0, 0, none⟩ _ g (by show g ≠ g0; omega)).trans e3, r⟩
  go_wp2
  go_end0
  refine ⟨rfl, hgw, HS.out.lt, A3, s + q, c3, HS.out, ?_, by omega, ?_⟩
  · unfold Hid; rw [Htk.out, List.length_append, hs.out, Hlen.out]
  · rw [Htk.out]; exact ho5

/-- What Gather hands back. -/
def GathR (w : World) (E : Int) (bs : List UInt8) (e : Ending) (w' : World) : Prop := ∃ A n c, e = .returned (.tuple #[.slice A n c, .int .i64 E]) ∧ Hid (n = bs.length) ∧ Grows w w' ∧ SB w' A n c bs
def gathB (mem : List UInt8) (nC wd : Nat) (c : Int) (l : List (Int × Int)) : List UInt8 := if doesE nC wd c l = 0 then gathF mem (c.toNat * wd) l else []
theorem window_in {nC wd : Nat} {c : Int} (h1 : 0 ≤ c) (h2 : c < nC) : c.toNat * wd + wd ≤ nC * wd := by
  have : (c.toNat + 1) * wd ≤ nC * wd := Nat.mul_le_mul_right _ (by omega)
  rw [Nat.add_mul, Nat.one_mul] at this
  exact this
theorem does_in {nC wd : Nat} {c : Int} {l : List (Int × Int)} (h : doesE nC wd c l = 0) : (0 ≤ c ∧ c < nC) ∧ chkE l wd = 0 := by
  unfold doesE at h
  split at h
  · exact ⟨by assumption, h⟩
  · cases h
set_option maxRecDepth 100000 in
set_option maxHeartbeats 4000000 in
theorem gather_any (w : World) (g m nC wd : Nat) (mem : List UInt8) (c : Int) (l : List (Int × Int)) (A : Option Addr) (n cc : Nat)
    (h : ArS w g m nC wd mem) (hw0 : 0 < wd) (hw : wd ≤ 4096) (hn : nC ≤ 8) (hc : -9223372036854775808 ≤ c ∧ c ≤ 9223372036854775807) (hs : SpanR w A n cc l)
    (hwf : ∀ p ∈ l, (-9223372036854775808 ≤ p.1 ∧ p.1 ≤ 9223372036854775807) ∧ (-9223372036854775808 ≤ p.2 ∧ p.2 ≤ 9223372036854775807)) :
    Calls Try.prog 26 #[.pointer (some ⟨g, 0, none⟩), .int .i64 c, .slice A n cc] w (GathR w (doesE nC wd c l) (gathB mem nC wd c l)) := by
  have hgm : m < w.heap.size := h.by_.lt
  have hg0 : Grows w (w.alloc (.cells #[.slice none 0 0] 44)) := (Grows.refl w).alloc _
  have Hg0 := lib_hid hg0
  have Hb0 := lib_hid (Blk.new w 44 #[.slice none 0 0])
  have Hd := lib_hid (does_any (w.alloc (.cells #[.slice none 0 0] 44)) g m nC wd mem c l A n cc 47 #[.pointer (some ⟨w.heap.size, 0, none⟩)] (GathJ w w.heap.size mem (c.toNat * wd) l)
      (h.grows hg0) hw0 hw hn hc (hs.grows hg0) hwf (fun _ _ => rfl) (fun j W W' hg hJ => GathJ.grows hg hJ) (fun j W hJ => hs.grows hJ.1)
      ⟨hg0, by simp, none, 0, 0, Blk.new _ _ _, lib_hid (by simp [gathF]), by omega, by simp only [List.take_zero, gathF, List.flatMap_nil, List.map_nil]; exact World.ownsRow_nil _ _ _ _⟩
      (fun hE j p q W hj hpq hJ => by
        obtain ⟨hr1, hr2⟩ := does_in hE
        have hin := window_in (wd := wd) hr1.1 hr1.2
        have hfit := chkE_fit hr2
        exact gather1_any w w.heap.size mem (c.toNat * wd) l j _ p q _ W (Nat.le_refl _) hj (by have := (List.getElem?_eq_some_iff.1 hj).1; omega) (by omega) (partF_len hpq (by rw [h.len]; exact hin)) hJ (part_row (h.by_.grows hJ.1) hpq (by rw [h.len]; exact hin) hw)))
  have hll := lib_hid hs.len
  obtain ⟨E, HE⟩ : ∃ E, Hid (doesE nC wd c l = E) := ⟨_, lib_hid rfl⟩
  have HG : Hid (gathB mem nC wd c l = if E = 0 then gathF mem (c.toNat * wd) l else []) := by unfold Hid gathB; rw [HE.out]
  rw [HE.out] at Hd ⊢
  clear h hw0 hw hn hc hwf hs hgm hg0
  go_enter Try.func26, Try.ntmps26
  go_wp2_with fail
  refine Hd.out.mono ?_
  rintro e w1 ⟨rfl, hJ, hN⟩
  by_cases hE0 : E = 0
  · obtain ⟨hg1, hlt, C, s, e, hb, hsl, hsb, ho⟩ := hJ hE0
    have c0 : w1.cell? ⟨w.heap.size, 0, none⟩ = some (.slice C s e) := by rw [hb.cell]; rfl
    have HR : Hid (SB w1 C s e (gathF mem (c.toNat * wd) l)) := by
      have := SB.own ho
      rw [List.take_of_length_le (by rw [hll.out]; exact Nat.le_refl _)] at this
      exact this
    have Hsl : Hid (s = (gathF mem (c.toNat * wd) l).length) := by
      have := hsl.out
      rw [List.take_of_length_le (by rw [hll.out]; exact Nat.le_refl _)] at this
      exact this.symm
    have HG2 : Hid (gathB mem nC wd c l = gathF mem (c.toNat * wd) l) := by unfold Hid; rw [HG.out, if_pos hE0]
    clear hJ hN ho hb hsl hsb hE0
    go_wp2
    go_ret2
    rw [HG2.out]
    exact ⟨C, s, e, rfl, Hsl, hg1, HR.out⟩
  · have hg1 := hN hE0
    have c0 : w1.cell? ⟨w.heap.size, 0, none⟩ = some (.slice none 0 0) := by rw [(Hb0.out.grows hg1).cell]; rfl
    have HG2 : Hid (gathB mem nC wd c l = []) := by unfold Hid; rw [HG.out, if_neg hE0]
    clear hJ hN hE0
    go_wp2
    go_ret2
    rw [HG2.out]
    exact ⟨none, 0, 0, rfl, lib_hid rfl, Hg0.out.trans hg1, SB.nil _⟩

set_option maxRecDepth 100000 in
set_option maxHeartbeats 4000000 in
theorem read_any (w : World) (g m nC wd : Nat) (mem : List UInt8) (c at_ n : Int)
    (h : ArS w g m nC wd mem) (hw0 : 0 < wd) (hw : wd ≤ 4096) (hn : nC ≤ 8) (hc : -9223372036854775808 ≤ c ∧ c ≤ 9223372036854775807)
    (ha : (-9223372036854775808 ≤ at_ ∧ at_ ≤ 9223372036854775807) ∧ (-9223372036854775808 ≤ n ∧ n ≤ 9223372036854775807)) :
    Calls Try.prog 25 #[.pointer (some ⟨g, 0, none⟩), .int .i64 c, .int .i64 at_, .int .i64 n] w (GathR w (doesE nC wd c [(at_, n)]) (gathB mem nC wd c [(at_, n)])) := by
  have hg0 : Grows w (w.alloc (.cells #[.int .i64 at_, .int .i64 n] 28)) := (Grows.refl w).alloc _
  have H := lib_hid (gather_any (w.alloc (.cells #[.int .i64 at_, .int .i64 n] 28)) g m nC wd mem c [(at_, n)] _ 1 1 (h.grows hg0) hw0 hw hn hc (one_span w 28 at_ n) (by intro p hp; rw [List.mem_singleton] at hp; subst hp; exact ha))
  have Hg0 := lib_hid hg0
  clear h hw0 hw hn hc ha hg0
  go_enter Try.func25, Try.ntmps25
  go_wp2_with fail
  refine H.out.mono ?_
  rintro e w1 ⟨A1, n1, c1, rfl, hn1, hg1, hs1⟩
  have Hs1 := lib_hid hs1
  clear hs1
  go_wp2
  go_ret2
  exact ⟨A1, n1, c1, rfl, hn1, Hg0.out.trans hg1, Hs1.out⟩

end Go.Proofs.Ytbmmjkpibnnmeaa
