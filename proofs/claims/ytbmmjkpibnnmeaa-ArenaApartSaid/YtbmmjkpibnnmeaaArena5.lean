/-
  The walks of Write, Wipe; what the chapter's example of layer 16 says.
-/
import Derived.Test.YtbmmjkpibnnmeaaArena4
import Derived.Test.YtbmmjkpibnnmeaaDesc5
import Derived.Lib.SliceRun
import Derived.Deep.Cut
import Derived.Outline
import Derived.Lib.SlBytesConst
import Derived.Laws.IdiomStrings
namespace Go.Proofs.Ytbmmjkpibnnmeaa
open Go Go.RowKit
set_option linter.unusedSimpArgs false


abbrev I64 (x : Int) : Prop := -9223372036854775808 ≤ x ∧ x ≤ 9223372036854775807
set_option maxRecDepth 100000 in
set_option maxHeartbeats 4000000 in
theorem write_any (w : World) (g m nC wd : Nat) (mem : List UInt8) (c at_ : Int) (b : List UInt8) (B : Option Addr) (nb cb : Nat)
    (h : ArS w g m nC wd mem) (hw0 : 0 < wd) (hw : wd ≤ 4096) (hn : nC ≤ 8) (hc : I64 c) (ha : I64 at_) (hb : SB w B nb cb b) (hnb : nb ≤ 1000000) :
    Calls Try.prog 28 #[.pointer (some ⟨g, 0, none⟩), .int .i64 c, .int .i64 at_, .slice B nb cb] w (ScatR w g m nC wd (scatM mem nC wd c [(at_, (nb : Int))] b) (scatE nC wd c [(at_, (nb : Int))] b)) := by
  have hg0 : Grows w (w.alloc (.cells #[.int .i64 at_, .int .i64 (nb : Int)] 28)) := (Grows.refl w).alloc _
  have hmlt := h.by_.lt
  have H := lib_hid (scatter_any (w.alloc (.cells #[.int .i64 at_, .int .i64 (nb : Int)] 28)) g m nC wd mem c [(at_, (nb : Int))] _ 1 1 b B nb cb (h.grows hg0) hw0 hw hn hc (one_span w 28 at_ nb)
    (by intro p hp; rw [List.mem_singleton] at hp; subst hp; exact ⟨ha, by simp only; omega⟩) (fun p hp => by cases hp; simp only; omega) (hb.grows hg0) hnb)
  have Hg0 := lib_hid hg0
  have hcapb := hb.max
  unfold maxLen at hcapb
  have hcb := hb.cap
  clear h hw0 hw hn hc ha hg0 hb hmlt
  go_enter Try.func28, Try.ntmps28
  go_wp2_with fail
  refine H.out.mono ?_
  rintro e w1 ⟨rfl, hk, har⟩
  have Hk := lib_hid hk
  have Har := lib_hid har
  clear hk har
  go_wp2
  go_ret
  exact ⟨rfl, (Hg0.out.keeps (fun k => k = m)).trans Hk.out (fun i hi _ => hi), Har.out⟩

def wipeM (mem : List UInt8) (nC wd : Nat) (c : Int) : List UInt8 := if 0 ≤ c ∧ c < nC then splice mem (c.toNat * wd) (List.replicate wd 0) else mem
theorem run_clear_row {P : Program} {w : World} (t ty e : TypeId) (z : Value) (ht : P.underlying t = some (.slice e)) (hinfo : (P.info? e).map (fun i => i.zero) = some (some z)) (hz1 : z.cells = #[z]) (hzo : z.oneCell' = true)
    (g off n c : Nat) (tb : TypeId) (cur : Array Value) (hg : Blk w g tb cur) (hn : 0 < n) (hfit : off + n ≤ cur.size) :
    ∃ w', (Builtin.clear_ #[t] ty #[.slice (some ⟨g, off, none⟩) n c]).run P w = .ok (.tuple #[]) w' ∧ Blk w' g tb (splice cur.toList off (List.replicate n z)).toArray ∧ w.grownBy w' (some g) := by
  obtain ⟨i, hi, hz⟩ := Option.map_eq_some_iff.1 hinfo
  have hzv : (zeroValue e).run P w = .ok z w := by simp [zeroValue, typeInfo, hi, hz]
  have hst := run_storeCells_at P g off tb (List.replicate n z) 0 cur w hg (by simp; omega) (fun u hu => by rw [(List.mem_replicate.1 hu).2]; exact hzo)
  simp only [Nat.add_zero] at hst
  refine ⟨_, ?_, setRow_heap w g cur _ tb _ hg, ⟨rfl, rfl, rfl, by simp, fun k _ hk => setRow_other w g k _ (fun e => hk (by rw [e]))⟩⟩
  unfold splice
  rw [List.append_assoc] at hst
  obtain ⟨q, rfl⟩ : ∃ q, n = q + 1 := ⟨n - 1, by omega⟩
  simp only [Builtin.clear_, Sem.run_bind, run_underlying ht, Result.andThen_ok]
  simp [run_underlying ht, hzv, hz1, zeroCells_one, hst]
theorem wpList_clear {P : Program} {w : World} {ops : Array Oper} {rest : List Oper} {o : Oper} {a : Act} {Q : Exit → Act → World → Prop} (hgd : Region.wanted o (yielded ops a.tmps) = true) (s : Operand) (t : TypeId)
    (ho : o.op = .call { callee := .builtin .clear, args := #[s], argTypes := #[t] }) (e : TypeId) (z : Value) (ht : P.underlying t = some (.slice e)) (hinfo : (P.info? e).map (fun i => i.zero) = some (some z)) (hz1 : z.cells = #[z]) (hzo : z.oneCell' = true)
    (g off n c : Nat) (hs : a.eval s = .slice (some ⟨g, off, none⟩) n c) (tb : TypeId) (cur : Array Value) (hg : Blk w g tb cur) (hn : 0 < n) (hfit : off + n ≤ cur.size)
    (h : ∀ w', Blk w' g tb (splice cur.toList off (List.replicate n z)).toArray → w.grownBy w' (some g) → wpList P ops Q rest (a.put o.dst (.tuple #[])) w') : wpList P ops Q (o :: rest) a w := by
  obtain ⟨w', hrun, h2, h3⟩ := run_clear_row (P := P) (w := w) t o.type e z ht hinfo hz1 hzo g off n c tb cur hg hn hfit
  refine wpList_step fun K hK => ?_
  rw [if_pos hgd]
  unfold Oper.wp
  simp only [execOp, ho, resolve, invoke, builtin, Sem.run_bind, Sem.run_pure, Result.andThen_ok, List.map_toArray, List.map_cons, List.map_nil, hs, hrun]
  exact hK _ _ (h w' h2 h3)
set_option maxRecDepth 100000 in
set_option maxHeartbeats 4000000 in
theorem wipe_any (w : World) (g m nC wd : Nat) (mem : List UInt8) (c : Int)
    (h : ArS w g m nC wd mem) (hw0 : 0 < wd) (hw : wd ≤ 4096) (hn : nC ≤ 8) (hc : I64 c) :
    Calls Try.prog 31 #[.pointer (some ⟨g, 0, none⟩), .int .i64 c] w fun e w' => e = .returned (.tuple #[]) ∧ Keeps (fun k => k = m) w w' ∧ ArS w' g m nC wd (wipeM mem nC wd c) := by
  have H := lib_hid (own_any w g m nC wd mem c h hw0 hw hn hc)
  have Har := lib_hid h
  by_cases hr : 0 ≤ c ∧ c < nC
  · have HV : Hid (ownV m nC wd c = .slice (some ⟨m, c.toNat * wd, none⟩) wd wd) := by unfold Hid ownV; rw [if_pos hr]
    have HM : Hid (wipeM mem nC wd c = splice mem (c.toNat * wd) (List.replicate wd 0)) := by unfold Hid wipeM; rw [if_pos hr]
    have Hin := lib_hid (window_in (wd := wd) hr.1 hr.2)
    have Hw0 := lib_hid hw0
    rw [HV.out] at H
    rw [HM.out]
    clear hr hw0 hw hn hc h
    go_enter Try.func31, Try.ntmps31
    go_wp2_with fail
    refine H.out.mono ?_
    rintro e w1 ⟨rfl, hg1⟩
    have HB := lib_hid (Har.out.by_.grows hg1)
    have Hfit : Hid (c.toNat * wd + wd ≤ (mem.map b8).toArray.size) := by have := Har.out.len; unfold Hid; simp; rw [this]; exact Hin.out
    go_wp2_with (refine wpList_clear (by kernel_rfl) _ 44 rfl 5 (.int .u8 0) Try.underlying44 (by kernel_rfl) rfl rfl m (c.toNat * wd) wd wd rfl 5 _ HB.out Hw0.out Hfit.out ?_; intro w2 hb2 hg2)
    have Hb2 : Hid (Blk w2 m 5 ((splice mem (c.toNat * wd) (List.replicate wd 0)).map b8).toArray) := by
      unfold Hid; rw [← splice_map, List.map_replicate]; exact hb2
    have Hk : Hid (Keeps (fun k => k = m) w w2) := (hg1.keeps (fun k => k = m)).trans ((keeps_grown hg2).mono (fun i hi _ => (Option.some.inj hi).symm)) (fun i hi _ => hi)
    clear hb2 hg2
    go_end0
    exact ⟨rfl, Hk.out, Har.out.keeps Hk.out Hb2.out (splice_len _ _ _ (by rw [List.length_replicate, Har.out.len]; exact Hin.out))⟩
  · have HV : Hid (ownV m nC wd c = .slice none 0 0) := by unfold Hid ownV; rw [if_neg hr]
    have HM : Hid (wipeM mem nC wd c = mem) := by unfold Hid wipeM; rw [if_neg hr]
    rw [HV.out] at H
    rw [HM.out]
    have hcl : ∀ (ty : TypeId) (W : World), (Builtin.clear_ #[44] ty #[.slice none 0 0]).run Try.prog W = .ok (.tuple #[]) W := fun ty W => by
      simp [Builtin.clear_, run_underlying Try.underlying44]
    clear hr hw0 hw hn hc h
    go_enter Try.func31, Try.ntmps31
    go_wp2_with fail
    refine H.out.mono ?_
    rintro e w1 ⟨rfl, hg1⟩
    go_wp2
    go_end0
    exact ⟨rfl, hg1.keeps _, Har.out.grows hg1⟩

theorem abc_row (w : World) (t : TypeId) : SB (w.alloc (.cells #[.int .u8 97, .int .u8 98, .int .u8 99] t (3, 4))) (some ⟨w.heap.size, 0, none⟩) 3 3 [97, 98, 99] :=
  ⟨rfl, Nat.le_refl _, by unfold maxLen; omega, fun e => (by cases e), fun _ => ⟨w.heap.size, 0, rfl, by simp, fun j hj => by
    rw [Nat.zero_add, World.cell?_alloc_mark]
    have : j = 0 ∨ j = 1 ∨ j = 2 := by omega
    rcases this with rfl | rfl | rfl <;> rfl⟩⟩
set_option maxRecDepth 100000 in
set_option maxHeartbeats 4000000 in
theorem awake16_any (w : World) : Calls Try.prog 27 #[] w fun e w' => e = .returned (.bool true) ∧ Grows w w' := by
  have H1 := lib_hid (new_any 1 9 w (by decide) (by decide) (by decide) (by decide))
  have HS : Hid (∀ (g m : Nat) (W : World) (A B : Option Addr), ArS W g m 1 9 (List.replicate (1 * 9) 0) → SpanR W A 2 2 [(2, 1), (0, 2)] → SB W B 3 3 [97, 98, 99] → (∀ p, A = some p → p.block ≠ m) →
      Calls Try.prog 24 #[.pointer (some ⟨g, 0, none⟩), .int .i64 0, .slice A 2 2, .slice B 3 3] W (ScatR W g m 1 9 [98, 99, 97, 0, 0, 0, 0, 0, 0] 0)) := fun g m W A B h1 h2 h3 h4 => by
    have := scatter_any W g m 1 9 _ 0 [(2, 1), (0, 2)] A 2 2 [97, 98, 99] B 3 3 h1 (by decide) (by decide) (by decide) (by decide) h2 (by decide) h4 h3 (by decide)
    rw [show scatE 1 9 0 [(2, 1), (0, 2)] [97, 98, 99] = 0 by decide, show scatM (List.replicate (1 * 9) 0) 1 9 0 [(2, 1), (0, 2)] [97, 98, 99] = [98, 99, 97, 0, 0, 0, 0, 0, 0] by decide] at this
    exact this
  have HR : Hid (∀ (g m : Nat) (W : World), ArS W g m 1 9 [98, 99, 97, 0, 0, 0, 0, 0, 0] → Calls Try.prog 25 #[.pointer (some ⟨g, 0, none⟩), .int .i64 0, .int .i64 0, .int .i64 3] W (GathR W 0 [98, 99, 97])) := fun g m W h => by
    have := read_any W g m 1 9 _ 0 0 3 h (by decide) (by decide) (by decide) (by decide) (by decide)
    rw [show doesE 1 9 0 [(0, 3)] = 0 by decide, show gathB [98, 99, 97, 0, 0, 0, 0, 0, 0] 1 9 0 [(0, 3)] = [98, 99, 97] by decide] at this
    exact this
  go_enter Try.func27, Try.ntmps27
  go_wp2_with fail
  refine H1.out.mono ?_
  rintro e w1 ⟨g, m, rfl, hg, hm, hg1, har⟩
  have Har := lib_hid har
  have hz : w1.heap.size ≤ w1.heap.size := Nat.le_refl _
  have hmlt := har.by_.lt
  have HA : Hid (SpanR ((w1.alloc (.cells #[.int .i64 2, .int .i64 1, .int .i64 0, .int .i64 2] 28)).alloc (.cells #[.int .u8 97, .int .u8 98, .int .u8 99] 5 (3, 4))) (some ⟨w1.heap.size, 0, none⟩) 2 2 [(2, 1), (0, 2)]) := (two_spans w1 28 2 1 0 2).grows ((Grows.refl _).alloc _)
  have HB : Hid (SB ((w1.alloc (.cells #[.int .i64 2, .int .i64 1, .int .i64 0, .int .i64 2] 28)).alloc (.cells #[.int .u8 97, .int .u8 98, .int .u8 99] 5 (3, 4))) (some ⟨w1.heap.size + 1, 0, none⟩) 3 3 [97, 98, 99]) := by
    have := abc_row (w1.alloc (.cells #[.int .i64 2, .int .i64 1, .int .i64 0, .int .i64 2] 28)) 5
    unfold Hid; simpa using this
  have HG : Hid (Grows w1 ((w1.alloc (.cells #[.int .i64 2, .int .i64 1, .int .i64 0, .int .i64 2] 28)).alloc (.cells #[.int .u8 97, .int .u8 98, .int .u8 99] 5 (3, 4)))) := ((Grows.refl _).alloc _).alloc _
  have HS2 := lib_hid (HS.out g m _ _ _ (Har.out.grows HG.out) HA.out HB.out (fun p hp => by cases hp; simp only; omega))
  have Hgm := lib_hid (And.intro hg hm)
  have Hg1 := lib_hid hg1
  have hcv : (convert 44 44 (.slice (some ⟨w1.heap.size + 1, 0, none⟩) 3 3)).run Try.prog ((w1.alloc (.cells #[.int .i64 2, .int .i64 1, .int .i64 0, .int .i64 2] 28)).alloc (.cells #[.int .u8 97, .int .u8 98, .int .u8 99] 5)) =
      .ok (.slice (some ⟨w1.heap.size + 1, 0, none⟩) 3 3) ((w1.alloc (.cells #[.int .i64 2, .int .i64 1, .int .i64 0, .int .i64 2] 28)).alloc (.cells #[.int .u8 97, .int .u8 98, .int .u8 99] 5 (3, 4))) := by
    have := Go.Lib.run_convert_bytes_const (P := Try.prog) (w1.alloc (.cells #[.int .i64 2, .int .i64 1, .int .i64 0, .int .i64 2] 28)) 44 5 #[.int .u8 97, .int .u8 98, .int .u8 99] 3 3 Try.underlying44 Try.underlying5
    simpa using this
  clear hg hm hz hmlt har hg1 H1 HA HB
  go_wp2_with fail
  refine HS2.out.mono ?_
  rintro e w2 ⟨rfl, hk, har2⟩
  have Har2 := lib_hid har2
  have Hk := lib_hid hk
  clear hk har2 HS2
  go_wp2_with fail
  refine (HR.out g m _ Har2.out).mono ?_
  rintro e w3 ⟨A3, n3, c3, rfl, hn3, hg3, hs3⟩
  have cv := run_string_SB (P := Try.prog) Try.underlying44 Try.underlying5 Try.underlying9 hs3
  have Hg3 := lib_hid hg3
  clear hs3 hg3
  go_wp2
  go_ret
  refine ⟨rfl, ?_⟩
  have hk2 : Keeps (fun k => w.heap.size ≤ k) w w2 := (Hg1.out.keeps _).trans ((HG.out.keeps (fun k => k = m)).trans Hk.out (fun i hi _ => hi)) (fun i hi hlt => by subst hi; exact Hgm.out.2)
  exact (hk2.grows (fun i hi => hi)).trans Hg3.out

end Go.Proofs.Ytbmmjkpibnnmeaa
