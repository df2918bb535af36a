/-
  The walks of Scatter, Write, Wipe.
-/
import Derived.Test.YtbmmjkpibnnmeaaArena3
import Derived.Test.YtbmmjkpibnnmeaaArr16
import Derived.Lib.SliceRun
import Derived.Deep.Cut
import Derived.Deep.RegionLaw
import Derived.Outline
namespace Go.Proofs.Ytbmmjkpibnnmeaa
open Go Go.RowKit
set_option linter.unusedSimpArgs false


theorem SpanR.keeps {own : Nat → Prop} {w w' : World} {A : Option Addr} {n c : Nat} {l : List (Int × Int)} (h : SpanR w A n c l) (k : Keeps own w w') (ho : ∀ p, A = some p → ¬ own p.block) : SpanR w' A n c l :=
  ⟨h.1, h.2.1, h.2.2.1, h.2.2.2.1, fun hn => by
    obtain ⟨b, off, e, hb, hc⟩ := h.2.2.2.2 hn
    have hk := k.block b hb (ho _ e)
    refine ⟨b, off, e, Nat.lt_of_lt_of_le hb k.size, fun j p hj => ?_⟩
    have := hc j p hj
    simp only [World.cell?, hk] at this ⊢
    exact this⟩
theorem SB.keeps {own : Nat → Prop} {w w' : World} {A : Option Addr} {n c : Nat} {bs : List UInt8} (h : SB w A n c bs) (k : Keeps own w w') (ho : ∀ p, A = some p → ¬ own p.block) : SB w' A n c bs := Row.keeps h k ho
theorem grown_drew {w w' : World} {r : Option Nat} (h : w.drew.grownBy w' r) : w.grownBy w' r := ⟨h.os, h.tape, h.output, h.size, h.block⟩
theorem step_copy_grown {P : Program} {ops : Array Oper} {o : Oper} {a : Act} {w : World} {K : Act → World → Prop} {Q : Exit → Act → World → Prop} {E : Prop} (hgd : o.guard = none) (d s : Operand) (dT sT : TypeId)
    (ho : o.op = .call { callee := .builtin .copy, args := #[d, s], argTypes := #[dT, sT] }) (elem : TypeId) (hu : P.underlying dT = some (.slice elem)) (hsz : (P.info? elem).map (·.size) = some 1)
    (dp sp : Option Addr) (dLen dCap sLen sCap : Nat) (hd : a.eval d = .slice dp dLen dCap) (hs : a.eval s = .slice sp sLen sCap)
    (g off : Nat) (cur : List Value) (t : TypeId) (hg : Blk w g t cur.toArray) (cs : List Value) (hn : cs.length = Nat.min sLen dLen)
    (hpos : 0 < cs.length → dp = some ⟨g, off, none⟩ ∧ ∃ ad, sp = some ad ∧ ∀ j v, cs[j]? = some v → w.cell? (ad.add j) = some v)
    (hfit : off + cs.length ≤ cur.length) (h1 : ∀ v ∈ cs, v.oneCell' = true)
    (h : ∀ w', Hid (Blk w' g t (splice cur off cs).toArray) → Hid (w.grownBy w' (some g)) → K (a.put o.dst (goInt cs.length)) w') :
    if Region.wanted o (yielded ops a.tmps) = true then Oper.wp P o a w K Q else E := by
  have hw : Region.wanted o (yielded ops a.tmps) = true := by simp [Region.wanted, hgd]
  rw [if_pos hw]
  by_cases h0 : cs.length = 0
  · obtain rfl : cs = [] := List.eq_nil_of_length_eq_zero h0
    have hrun := run_copy_none (P := P) w dT sT o.type elem dp sp dLen dCap sLen sCap hu hsz (by simpa using hn.symm)
    unfold Oper.wp
    simp [execOp, ho, resolve, invoke, builtin, hd, hs, hrun, Result.andThen]
    exact h w (by unfold Hid Blk at *; simpa [splice] using hg) (World.grownBy.refl w _)
  · obtain ⟨rfl, ad, rfl, hsrc⟩ := hpos (by omega)
    have hrun := run_copy_row (P := P) w dT sT o.type elem g off dLen dCap ad sLen sCap cur.toArray t cs hu hsz hg hn hsrc (by simpa using hfit) h1
    unfold Oper.wp
    simp [execOp, ho, resolve, invoke, builtin, hd, hs, hrun, Result.andThen]
    exact h _ (show _ = _ by simpa [splice] using setRow_heap w g _ _ t _ hg) ⟨rfl, rfl, rfl, by simp, fun k _ hk => setRow_other w g k _ (fun e => hk (by rw [e]))⟩

/-- How many bytes spans have. -/
def roomF (l : List (Int × Int)) : Int := (l.map (·.2)).sum
theorem roomF_succ {l : List (Int × Int)} {j : Nat} {p : Int × Int} (h : l[j]? = some p) : roomF (l.take (j + 1)) = roomF (l.take j) + p.2 := by
  unfold roomF
  rw [List.take_add_one, h]
  simp
def RoomJ (w : World) (gr : Nat) (l : List (Int × Int)) (j : Nat) (W : World) : Prop := Grows w W ∧ ∃ r, Hid (roomF (l.take j) = r) ∧ 0 ≤ r ∧ r ≤ 4096 * j ∧ Blk W gr 3 #[.int .i64 r]
theorem RoomJ.grows {w : World} {gr : Nat} {l : List (Int × Int)} {j : Nat} {W W' : World} (hg : Grows W W') (h : RoomJ w gr l j W) : RoomJ w gr l j W' := by
  obtain ⟨h1, r, h2, h3, h4, h5⟩ := h
  exact ⟨h1.trans hg, r, h2, h3, h4, h5.grows hg⟩
set_option maxRecDepth 100000 in
set_option maxHeartbeats 4000000 in
theorem scatter1_any (w : World) (gr : Nat) (l : List (Int × Int)) (j : Nat) (P : Option Addr) (p q c : Nat) (W : World) (hgr : w.heap.size ≤ gr) (hl : l[j]? = some ((p : Int), (q : Int))) (hj : j < 8) (hq : q ≤ 4096) (hJ : RoomJ w gr l j W) :
    Calls Try.prog 44 #[.slice P q c, .pointer (some ⟨gr, 0, none⟩)] W fun e W' => e = .returned (.tuple #[]) ∧ RoomJ w gr l (j + 1) W' := by
  obtain ⟨hg, r, hr, hr0, hr1, hb⟩ := hJ
  have c0 : W.cell? ⟨gr, 0, none⟩ = some (.int .i64 r) := by rw [hb.cell]; rfl
  have f0 := hb.frozen 0
  have hz : gr < W.heap.size := hb.lt
  have HB := lib_hid (hb.set 0 (.int .i64 (r + q)))
  have Hg : Hid (Grows w (W.setCell ⟨gr, 0, none⟩ (.int .i64 (r + q)))) := hg.setCell (p := ⟨gr, 0, none⟩) hgr _
  have hqi : (q : Int) ≤ 4096 := by omega
  have hrb : r ≤ 32768 := by omega
  have HH : Hid (roomF (l.take (j + 1)) = r + q) := by unfold Hid; rw [roomF_succ hl, hr.out]
  have Hb1 : Hid (r + q ≤ 4096 * ((j + 1 : Nat) : Int)) := by unfold Hid; omega
  clear hb hg hr hl
  go_enter Try.func44, Try.ntmps44
  go_wp2
  go_end0
  exact ⟨rfl, Hg.out, _, HH, by omega, Hb1.out, HB.out⟩

/-- Bytes put at the places of spans, one span after the other. -/
def putStep (lo : Nat) (st : List UInt8 × List UInt8) (p : Int × Int) : List UInt8 × List UInt8 := (splice st.1 (lo + p.1.toNat) (st.2.take p.2.toNat), st.2.drop (st.2.take p.2.toNat).length)
def putT (mem : List UInt8) (lo : Nat) (b : List UInt8) (l : List (Int × Int)) : List UInt8 × List UInt8 := l.foldl (putStep lo) (mem, b)
theorem putT_succ {mem b : List UInt8} {lo : Nat} {l : List (Int × Int)} {j : Nat} {p : Int × Int} (h : l[j]? = some p) : putT mem lo b (l.take (j + 1)) = putStep lo (putT mem lo b (l.take j)) p := by
  unfold putT
  rw [List.take_add_one, h, List.foldl_append]
  rfl
theorem splice_len {α : Type} (xs ys : List α) (k : Nat) (h : k + ys.length ≤ xs.length) : (splice xs k ys).length = xs.length := by
  unfold splice
  simp only [List.length_append, List.length_take, List.length_drop]
  omega
def PutJ (w : World) (m gx : Nat) (mem : List UInt8) (lo : Nat) (b : List UInt8) (l : List (Int × Int)) (j : Nat) (W : World) : Prop :=
  Keeps (fun k => k = m) w W ∧ ∃ memj rest R r rc, Hid (putT mem lo b (l.take j) = (memj, rest)) ∧ memj.length = mem.length ∧ Blk W m 5 (memj.map b8).toArray ∧ Blk W gx 44 #[.slice R r rc] ∧ SB W R r rc rest ∧ (∀ p, R = some p → p.block ≠ m ∧ p.block ≠ gx)
theorem PutJ.grows {w : World} {m gx : Nat} {mem : List UInt8} {lo : Nat} {b : List UInt8} {l : List (Int × Int)} {j : Nat} {W W' : World} (hg : Grows W W') (h : PutJ w m gx mem lo b l j W) : PutJ w m gx mem lo b l j W' := by
  obtain ⟨h1, memj, rest, R, r, rc, h2, h3, h4, h5, h6, h7⟩ := h
  exact ⟨h1.trans (hg.keeps (fun k => k = m)) (fun i hi _ => hi), memj, rest, R, r, rc, h2, h3, h4.grows hg, h5.grows hg, h6.grows hg, h7⟩
set_option maxRecDepth 100000 in
set_option maxHeartbeats 4000000 in
theorem scatter2_any (w : World) (m gx : Nat) (mem : List UInt8) (lo wd : Nat) (b : List UInt8) (l : List (Int × Int)) (j p q : Nat) (W : World) (hgx : w.heap.size ≤ gx) (hm : m < w.heap.size) (hl : l[j]? = some ((p : Int), (q : Int)))
    (hpq : p + q ≤ wd) (hlo : lo + wd ≤ mem.length) (hJ : PutJ w m gx mem lo b l j W) :
    Calls Try.prog 46 #[.slice (partA m lo wd p) q (wd - p), .pointer (some ⟨gx, 0, none⟩)] W fun e W' => e = .returned (.tuple #[]) ∧ PutJ w m gx mem lo b l (j + 1) W' := by
  obtain ⟨hk, memj, rest, R, r, rc, hput, hlen, hbm, hbx, hsr, hne⟩ := hJ
  obtain ⟨tk, Htk⟩ : ∃ tk, Hid (rest.take q = tk) := ⟨_, lib_hid rfl⟩
  have hrl := hsr.len
  obtain ⟨k, Hk, hkr, hkq⟩ : ∃ k, Hid (tk.length = k) ∧ k ≤ r ∧ k ≤ q := ⟨_, lib_hid rfl, by rw [← Htk.out, List.length_take]; omega, by rw [← Htk.out, List.length_take]; omega⟩
  have Hmin : Hid (k = Nat.min r q) := by
    have := Hk.out
    rw [← Htk.out, List.length_take, hrl] at this
    have e : Nat.min r q = min r q := rfl
    unfold Hid; omega
  have Hput : Hid (putT mem lo b (l.take (j + 1)) = (splice memj (lo + p) tk, rest.drop k)) := by
    unfold Hid
    rw [putT_succ hl, hput.out, putStep]
    simp only [Int.toNat_natCast, Htk.out, Hk.out]
  have c0 : W.cell? ⟨gx, 0, none⟩ = some (.slice R r rc) := by rw [hbx.cell]; rfl
  have f0 := hbx.frozen 0
  have hz : gx < W.heap.size := hbx.lt
  have HM := lib_hid hbm
  rw [show (memj.map b8).toArray = ((memj.map b8) : List Value).toArray from rfl] at HM
  have HX := lib_hid hbx
  have Hne : Hid (some gx ≠ some m) := fun e => by have := Option.some.inj e; omega
  have Hfit : Hid (lo + p + (tk.map b8).length ≤ (memj.map b8).length) := by unfold Hid; rw [List.length_map, List.length_map, Hk.out, hlen]; omega
  have Hn : Hid ((tk.map b8).length = Nat.min r q) := by unfold Hid; rw [List.length_map, Hk.out]; exact Hmin.out
  have hlenk : (tk.map b8).length = k := by rw [List.length_map, Hk.out]
  have Hlenk := lib_hid hlenk
  have Hpos : Hid (0 < (tk.map b8).length → partA m lo wd p = some ⟨m, lo + p, none⟩ ∧ ∃ ad, R = some ad ∧ ∀ j v, (tk.map b8)[j]? = some v → W.cell? (ad.add j) = some v) := fun h0 => by
    rw [List.length_map, Hk.out] at h0
    refine ⟨by unfold partA; rw [if_neg (by omega)], ?_⟩
    obtain ⟨bk, off, e, _, hc⟩ := hsr.2.2.2.2 (by omega)
    refine ⟨_, e, fun i v hv => ?_⟩
    have hi : i < k := by
      have := (List.getElem?_eq_some_iff.1 hv).1
      rw [List.length_map, Hk.out] at this; exact this
    rw [add_zero_spot, hc i (by omega), ← hv, ← Htk.out, List.map_take, List.getElem?_take, if_pos (by omega)]
  have hcapr := hsr.cap
  have hmaxr := hsr.max
  unfold maxLen at hmaxr
  have Hsr := lib_hid hsr
  have Hkk := lib_hid hk
  have Hne2 := lib_hid hne
  have hkr' : (k : Int) ≤ r := by omega
  clear hput hbm hbx hsr hne hl hk
  go_enter Try.func46, Try.ntmps46
  have Hc4 : Hid (∀ w4, World.grownBy W w4 (some m) → w4.cell? ⟨gx, 0, none⟩ = some (.slice R r rc) ∧ w4.frozen? ⟨gx, 0, none⟩ = false ∧ gx < w4.heap.size) := fun w4 h => by
    have hx := HX.out.grown h Hne.out
    exact ⟨by rw [hx.cell]; rfl, hx.frozen 0, hx.lt⟩
  go_region_law (refine step_copy_grown rfl (.tmp 4) (.tmp 5) 44 44 rfl 5 Try.underlying44 Try.sizeByte (partA m lo wd p) R q (wd - p) r rc rfl rfl m (lo + p) (memj.map b8) 5 HM.out (tk.map b8) Hn.out Hpos.out Hfit.out (b8_one _) ?_; intro w4 hg4 hb4; rw [Hlenk.out]; have hb5 := lib_hid (grown_drew hb4.out); obtain ⟨c4, f4, z4⟩ := Hc4.out w4 hb5.out; clear hb4)
  all_goals
    go_end0
    have hM4 : Blk w4 m 5 ((splice memj (lo + p) tk).map b8).toArray := by have := hg4.out; rw [splice_map] at this; exact this
    have hkW : Keeps (fun k => k = m) W w4 := (keeps_grown hb5.out).mono (fun i hi _ => (Option.some.inj hi).symm)
    have hfr := Hsr.out.frm (k := k) hkr
    have hA2 : ∀ p1, (if rc = k then R else R.map (fun x => x.add k)) = some p1 → p1.block ≠ m ∧ p1.block ≠ gx := fun p1 hp1 => by
      obtain ⟨p0, hp0, hb0⟩ : ∃ p0, R = some p0 ∧ p1.block = p0.block := by
        split at hp1
        · exact ⟨p1, hp1, rfl⟩
        · cases hR : R with
          | none => rw [hR] at hp1; cases hp1
          | some p0 => rw [hR] at hp1; cases hp1; exact ⟨p0, rfl, by unfold Addr.add; split <;> rfl⟩
      rw [hb0]; exact Hne2.out p0 hp0
    generalize (if rc = k then R else R.map (fun x => x.add k)) = A2 at hfr hA2 ⊢
    have hset := keeps_set w4 ⟨gx, 0, none⟩ (.slice A2 (r - k) (rc - k))
    have hbx := (HX.out.grown hb5.out Hne.out).set 0 (.slice A2 (r - k) (rc - k))
    refine ⟨rfl, ?_, _, _, A2, r - k, rc - k, Hput, ?_, hM4.far (p := ⟨gx, 0, none⟩) (fun e => Hne.out (by rw [e])) _, hbx, ?_, hA2⟩
    · exact (Hkk.out.trans hkW (fun i hi _ => hi)).trans hset (fun i hi hlt => by have : i = gx := hi; omega)
    · rw [splice_len _ _ _ (by rw [Hk.out, hlen]; omega), hlen]
    · exact (hfr.keeps hkW (fun p1 hp1 => (hA2 p1 hp1).1)).keeps hset (fun p1 hp1 => (hA2 p1 hp1).2)

set_option maxRecDepth 100000 in
set_option maxHeartbeats 4000000 in
theorem clone16_any (bs : List UInt8) (A : Option Addr) (l c : Nat) (w : World) (hs : SB w A l c bs) (hl : l ≤ 1000000) :
    Calls Try.prog 45 #[.slice A l c] w (NewB 5 w bs) := by
  have hbl := lib_hid hs.len
  cases A with
  | none =>
    have hc0 : c = 0 := hs.2.2.2.1 rfl
    have hl0 : l = 0 := by have := hs.cap; omega
    subst hc0 hl0
    have heq : ∀ W : World, (binOp .eql 44 (.slice none 0 0) (.slice none 0 0)).run Try.prog W = .ok (.bool true) W := fun W => Lib.run_eql_slice_nil W 44 5 _ _ _ _ _ Try.underlying44
    have hb : bs = [] := List.eq_nil_of_length_eq_zero hbl.out
    clear hs
    go_enter Try.func45, Try.ntmps45
    go_wp2
    go_ret
    exact newB_mk rfl hbl.out.symm (Grows.refl w) (by rw [hb]; exact World.ownsRow_nil _ _ _ _)
  | some ad =>
    have heq : ∀ W : World, (binOp .eql 44 (.slice (some ad) l c) (.slice none 0 0)).run Try.prog W = .ok (.bool false) W := fun W => Lib.run_eql_slice_nil W 44 5 _ _ _ _ _ Try.underlying44
    have ho := World.ownsRow_lit (base := w.heap.size) (e := 5) (size := 1) w #[] 0 (Nat.le_refl _) (by unfold maxLen; omega) rfl
    have hr := hs.grows ((Grows.refl w).alloc (.cells #[] 5))
    have HH := lib_hid (And.intro hr ho)
    clear hr ho hs
    go_enter Try.func45, Try.ntmps45
    go_wp2_with (at_builtin; refine wpList_append rfl _ _ 44 rfl w.heap.size 5 (.int .u8 0) 1 Try.underlying44 Try.infoByte rfl _ 0 [] rfl HH.out.2 _ _ _ (bs.map b8) rfl HH.out.1 (b8_one bs) (by omega) (by omega) (by simp) ?_; intro A3 c3 w3 ho3 hb3 hg3)
    have HO := lib_hid ho3
    have hgw : Grows w w3 := Below.trans ((Grows.refl w).alloc (.cells #[] 5)) hb3
    go_ret
    have h := HO.out
    simp only [Nat.zero_add, List.nil_append] at h
    exact newB_mk (by simp) hbl.out.symm hgw h

/-- What Scatter answers, and what it puts. -/
def scatE (nC wd : Nat) (c : Int) (l : List (Int × Int)) (b : List UInt8) : Int := if doesE nC wd c l = 0 then (if roomF l < b.length then 10 else 0) else doesE nC wd c l
def scatM (mem : List UInt8) (nC wd : Nat) (c : Int) (l : List (Int × Int)) (b : List UInt8) : List UInt8 := if scatE nC wd c l b = 0 then (putT mem (c.toNat * wd) b l).1 else mem
def ScatR (w : World) (g m nC wd : Nat) (mem' : List UInt8) (E : Int) (e : Ending) (w' : World) : Prop := e = .returned (.int .i64 E) ∧ Keeps (fun k => k = m) w w' ∧ ArS w' g m nC wd mem'
theorem ArS.keeps {w w' : World} {g m nC wd : Nat} {mem mem' : List UInt8} (h : ArS w g m nC wd mem) (k : Keeps (fun k => k = m) w w') (hb : Blk w' m 5 (mem'.map b8).toArray) (hl : mem'.length = mem.length) : ArS w' g m nC wd mem' :=
  ⟨h.st.keeps k h.ne, hb, hl.trans h.len, h.ne⟩
set_option maxRecDepth 100000 in
set_option maxHeartbeats 4000000 in
theorem scatter_any (w : World) (g m nC wd : Nat) (mem : List UInt8) (c : Int) (l : List (Int × Int)) (A : Option Addr) (n cc : Nat) (b : List UInt8) (B : Option Addr) (nb cb : Nat)
    (h : ArS w g m nC wd mem) (hw0 : 0 < wd) (hw : wd ≤ 4096) (hn : nC ≤ 8) (hc : -9223372036854775808 ≤ c ∧ c ≤ 9223372036854775807) (hs : SpanR w A n cc l)
    (hwf : ∀ p ∈ l, (-9223372036854775808 ≤ p.1 ∧ p.1 ≤ 9223372036854775807) ∧ (-9223372036854775808 ≤ p.2 ∧ p.2 ≤ 9223372036854775807))
    (hA : ∀ p, A = some p → p.block ≠ m) (hb : SB w B nb cb b) (hnb : nb ≤ 1000000) :
    Calls Try.prog 24 #[.pointer (some ⟨g, 0, none⟩), .int .i64 c, .slice A n cc, .slice B nb cb] w (ScatR w g m nC wd (scatM mem nC wd c l b) (scatE nC wd c l b)) := by
  have hmlt : m < w.heap.size := h.by_.lt
  have hg0 : Grows w (w.alloc (.cells #[.int .i64 0] 3)) := (Grows.refl w).alloc _
  have hb0 := Blk.new w 3 #[.int .i64 0]
  have Hb0 := lib_hid hb0
  have Hd1 := lib_hid (does_any (w.alloc (.cells #[.int .i64 0] 3)) g m nC wd mem c l A n cc 44 #[.pointer (some ⟨w.heap.size, 0, none⟩)] (RoomJ w w.heap.size l)
      (h.grows hg0) hw0 hw hn hc (hs.grows hg0) hwf (fun _ _ => rfl) (fun j W W' hg hJ => RoomJ.grows hg hJ) (fun j W hJ => hs.grows hJ.1)
      ⟨hg0, 0, lib_hid (by simp [roomF]), by omega, by omega, hb0⟩
      (fun hE j p q W hj hpq hJ => by
        obtain ⟨hr1, hr2⟩ := does_in hE
        have hfit := chkE_fit hr2
        exact scatter1_any w w.heap.size l j _ p q _ W (Nat.le_refl _) hj (by have := (List.getElem?_eq_some_iff.1 hj).1; omega) (by omega) hJ))
  have Hd2 : Hid (∀ W gx R r rc, Grows w W → w.heap.size ≤ gx → Blk W gx 44 #[.slice R r rc] → SB W R r rc b → (∀ p, R = some p → p.block ≠ m ∧ p.block ≠ gx) → doesE nC wd c l = 0 →
      Calls Try.prog 43 #[.pointer (some ⟨g, 0, none⟩), .int .i64 c, .slice A n cc, .func (.func 46) #[] #[.pointer (some ⟨gx, 0, none⟩)]] W (DoesR (PutJ w m gx mem (c.toNat * wd) b l n) W 0)) := fun W gx R r rc hgW hgx hbx hsr hne hE => by
    obtain ⟨hr1, hr2⟩ := does_in hE
    have hin := window_in (wd := wd) hr1.1 hr1.2
    have := does_any W g m nC wd mem c l A n cc 46 #[.pointer (some ⟨gx, 0, none⟩)] (PutJ w m gx mem (c.toNat * wd) b l)
      (h.grows hgW) hw0 hw hn hc (hs.grows hgW) hwf (fun _ _ => rfl) (fun j W W' hg hJ => PutJ.grows hg hJ) (fun j W hJ => hs.keeps hJ.1 (fun p hp => hA p hp))
      ⟨hgW.keeps _, mem, b, R, r, rc, lib_hid rfl, rfl, h.by_.grows hgW, hbx, hsr, hne⟩
      (fun _ j p q W hj hpq hJ => scatter2_any w m gx mem (c.toNat * wd) wd b l j p q W hgx hmlt hj hpq (by rw [h.len]; exact hin) hJ)
    rw [hE] at this
    exact this
  have Hcl : Hid (∀ W, Grows w W → Calls Try.prog 45 #[.slice B nb cb] W (NewB 5 W b)) := fun W hW => clone16_any b B nb cb W (hb.grows hW) hnb
  have hll := lib_hid hs.len
  have hbl := lib_hid hb.len
  have Har := lib_hid h
  have Hm := lib_hid hmlt
  obtain ⟨E, HE⟩ : ∃ E, Hid (doesE nC wd c l = E) := ⟨_, lib_hid rfl⟩
  have HEbd : Hid (E = 0 → l.length ≤ 8 ∧ ∀ p ∈ l, 0 ≤ p.1 ∧ 0 ≤ p.2 ∧ p.1 ≤ wd ∧ p.2 ≤ wd - p.1) := fun h => chkE_fit (does_in (HE.out.trans h)).2
  rw [HE.out] at Hd1
  have hcapb := hb.max
  unfold maxLen at hcapb
  have hcb := hb.cap
  clear h hw0 hw hn hc hwf hs hA hb hb0 hmlt
  go_enter Try.func24, Try.ntmps24
  go_wp2_with fail
  refine Hd1.out.mono ?_
  rintro e w1 ⟨rfl, hJ, hN⟩
  by_cases hE0 : E = 0
  rotate_left
  · have hg1 := hN hE0
    have HS : Hid (scatE nC wd c l b = E) := by unfold Hid scatE; rw [HE.out, if_neg hE0]
    have HM : Hid (scatM mem nC wd c l b = mem) := by unfold Hid scatM; rw [HS.out, if_neg hE0]
    have hd : (E == 0) = false := by simpa using hE0
    have hd2 : (E != 0) = true := by simpa using hE0
    have hgw := hg0.trans hg1
    clear hJ hN hE0
    go_wp2
    go_ret
    rw [HS.out, HM.out]
    exact ⟨rfl, hgw.keeps _, Har.out.grows hgw⟩
  obtain ⟨hg1, r, hr, hr0, hr1, hbr⟩ := hJ hE0
  have c0 : w1.cell? ⟨w.heap.size, 0, none⟩ = some (.int .i64 r) := by rw [hbr.cell]; rfl
  have HR : Hid (roomF l = r) := by
    have := hr.out
    rw [List.take_of_length_le (by rw [hll.out]; exact Nat.le_refl _)] at this
    exact this
  have hrb : r ≤ 32768 := by have := (HEbd.out hE0).1; have := hll.out; omega
  have hE0' := lib_hid hE0
  clear hJ hN hr hr1 hbr hE0
  have HE2 := HE.out
  rw [hE0'.out] at HE2
  have HE3 := lib_hid HE2
  obtain rfl : E = 0 := hE0'.out
  clear HE2
  by_cases hbig : r < (nb : Int)
  · have HS : Hid (scatE nC wd c l b = 10) := by unfold Hid scatE; rw [HE3.out, if_pos rfl, HR.out, hbl.out, if_pos hbig]
    have HM : Hid (scatM mem nC wd c l b = mem) := by unfold Hid scatM; rw [HS.out, if_neg (by decide)]
    go_wp2
    go_ret
    rw [HS.out, HM.out]
    exact ⟨rfl, hg1.keeps _, Har.out.grows hg1⟩
  · have HS : Hid (scatE nC wd c l b = 0) := by unfold Hid scatE; rw [HE3.out, if_pos rfl, HR.out, hbl.out, if_neg hbig]
    have HM : Hid (scatM mem nC wd c l b = (putT mem (c.toNat * wd) b l).1) := by unfold Hid scatM; rw [HS.out, if_pos rfl]
    go_wp2_with fail
    refine (Hcl.out _ hg1).mono ?_
    rintro e w2 ⟨A2, n2, c2, hn2, rfl, hg2, ho2⟩
    have hs2 := SB.own ho2
    have hA2 : ∀ p, A2 = some p → w1.heap.size ≤ p.block := by
      obtain ⟨_, _, e, _, hbase⟩ := own_form ho2
      cases e
      exact hbase
    have hA3 : ∀ p, A2 = some p → p.block < w2.heap.size := fun p hp => by
      obtain ⟨h1, h2⟩ := ho2
      rcases h2 with ⟨hv, _⟩ | ⟨g', cap', cur', hv, _, hg', _⟩
      · cases hv; cases hp
      · cases hv; cases hp; exact Blk.lt hg'
    have hgx : Grows w (w2.alloc (.cells #[.slice A2 n2 c2] 44)) := (hg1.trans hg2).alloc _
    have Hd3 := lib_hid (Hd2.out (w2.alloc (.cells #[.slice A2 n2 c2] 44)) w2.heap.size A2 n2 c2 hgx (hg1.trans hg2).le (Blk.new _ _ _) (hs2.grows ((Grows.refl w2).alloc _)) (fun p hp => ⟨by have := hA2 p hp; have := hg1.le; have := Hm.out; omega, by have := hA3 p hp; omega⟩) HE3.out)
    clear hs2 hA2 hA3 ho2 hbig
    go_wp2_with fail
    refine Hd3.out.mono ?_
    rintro e w3 ⟨rfl, hJ, _⟩
    have hJ2 := lib_hid (hJ rfl)
    clear hJ
    go_wp2
    go_ret
    rw [HS.out, HM.out]
    obtain ⟨hk, memj, rest, R, r1, rc, hput, hlen, hbm, _⟩ := hJ2.out
    have hp2 := hput.out
    rw [List.take_of_length_le (by rw [hll.out]; exact Nat.le_refl _)] at hp2
    rw [hp2]
    exact ⟨rfl, hk, Har.out.keeps hk hbm hlen⟩

end Go.Proofs.Ytbmmjkpibnnmeaa
