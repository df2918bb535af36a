/-
  aes: subs by tables alone; a word appended to the round keys; the expansion as a recursion.
-/
import Derived.Test.YthcmdjaccjghjaaAes7
import Derived.Test.YthcmdjaccjghjaaBits3
import Derived.Test.YthcmdjaccjghjaaCopyG
import Derived.Test.YthcmdjaccjghjaaCbc1
import Derived.Deep.RegionLaw
import Derived.Deep.Cut
import Derived.LoopN
namespace Go.Proofs.Ythcmdjaccjghjaa
open Go Go.RowKit
set_option linter.unusedSimpArgs false
set_option linter.unusedVariables false


/-- A key object that reads as tables; the blocks lie below B. -/
def KeyT (w : World) (B g : Nat) (T : List UInt8) : Prop :=
  ∃ gt, g < B ∧ gt < B ∧ B ≤ w.heap.size ∧ w.cell? ⟨g, 0, none⟩ = some (.pointer (some ⟨gt, 0, none⟩)) ∧ ∀ j, j < 256 → w.cell? ⟨gt, j, none⟩ = some (.int .u8 ((T.getD j 0).toNat : Int))
theorem KeyT.below {w w' : World} {B g : Nat} {T : List UInt8} (h : KeyT w B g T) (hb : Below B w w') : KeyT w' B g T := by
  obtain ⟨gt, h1, h2, h4, h5, h6⟩ := h
  exact ⟨gt, h1, h2, Nat.le_trans h4 hb.size, (hb.cell (p := ⟨g, 0, none⟩) h1).trans h5, fun j hj => (hb.cell (p := ⟨gt, j, none⟩) h2).trans (h6 j hj)⟩
set_option maxRecDepth 100000 in
set_option maxHeartbeats 4000000 in
theorem subs_tab (B g b n c : Nat) (T xs : List UInt8) (t : TypeId) (W : World) (hK : KeyT W B g T) (hb : Blk W b t (xs.map b8).toArray) (hB : B ≤ b) (hx : xs.length = n) (hn : n ≤ 16) :
    Calls Try.prog 19 #[.pointer (some ⟨g, 0, none⟩), .slice (some ⟨b, 0, none⟩) n c] W fun e W' => e = .returned (.tuple #[]) ∧ Keeps (fun k => k = b) W W' ∧ Blk W' b t ((subF T xs).map b8).toArray := by
  have HK := lib_hid hK
  have Hb := lib_hid hb
  clear hK hb
  go_enter Try.func19, Try.ntmps19
  go_wp2
  go_loopw [8] (fun i wr => ∃ k : Nat, k ≤ n ∧ i = .int .i64 (k : Int) ∧ Hid (Keeps (fun k => k = b) W wr) ∧ Hid (Blk wr b t (altRow n (fun j => T.getD (xs.getD j 0).toNat 0) (fun j => xs.getD j 0) k))) (fun i _ => n - (intOf i).toNat)
  case atStart => exact ⟨0, Nat.zero_le _, rfl, lib_hid (Keeps.refl _ _), lib_hid (by rw [← hx, altRow_zero]; exact Hb.out)⟩
  case round =>
    obtain ⟨k, hk, rfl, Hk, HB⟩ := hrel
    by_cases hlt : k < n
    · have hki : (k : Int) < (n : Int) := by omega
      obtain ⟨x, Hx⟩ : ∃ x, Hid (xs.getD k 0 = x) := ⟨_, lib_hid rfl⟩
      obtain ⟨y, Hy⟩ : ∃ y, Hid (T.getD x.toNat 0 = y) := ⟨_, lib_hid rfl⟩
      obtain ⟨gt, h1, h2, h4, h5, h6⟩ := HK.out.below (Hk.out.below HK.out.choose_spec.2.2.1 (by intro i hi; omega))
      have hc1 : wr.cell? ⟨b, k, none⟩ = some (.int .u8 (x.toNat : Int)) := by
        rw [HB.out.cell, altRow_at _ _ _ _ hlt]; show some (Value.int .u8 ((xs.getD k 0).toNat : Int)) = _; rw [Hx.out]
      have hc2 := h5
      have hc3 : wr.cell? ⟨gt, x.toNat, none⟩ = some (.int .u8 (y.toNat : Int)) := by
        rw [h6 x.toNat x.toNat_lt, Hy.out]
      have hf := HB.out.frozen k
      have hb3 := HB.out.set k (b8 y)
      rw [show b8 y = b8 ((fun j => T.getD (xs.getD j 0).toNat 0) k) by show _ = b8 (T.getD (xs.getD k 0).toNat 0); rw [Hx.out, Hy.out], altRow_set _ _ _ _ hlt] at hb3
      have hb4 : Hid (Blk (wr.setCell ⟨b, k, none⟩ (b8 y)) b t (altRow n (fun j => T.getD (xs.getD j 0).toNat 0) (fun j => xs.getD j 0) (k + 1))) := by
        unfold Hid
        rw [show b8 y = b8 ((fun j => T.getD (xs.getD j 0).toNat 0) k) by show _ = b8 (T.getD (xs.getD k 0).toNat 0); rw [Hx.out, Hy.out]]
        exact hb3
      have HK3 : Hid (Keeps (fun k => k = b) W (wr.setCell ⟨b, k, none⟩ (b8 y))) := lib_hid (Hk.out.trans (keeps_set wr ⟨b, k, none⟩ (b8 y)) (fun _ h _ => h))
      have hx255 : (x.toNat : Int) < 256 := by have := x.toNat_lt; omega
      have hbl : b < wr.heap.size := HB.out.lt
      clear hb3 h1 h2 h4 h5 h6 HB
      go_wp2
      go_roundw
      case rel => exact ⟨k + 1, by omega, by go_num, HK3, hb4⟩
      case measure => simp [intOf]; omega
    · have hki : ¬ (k : Int) < (n : Int) := by omega
      have hkn : Hid (k = n) := lib_hid (by omega)
      go_wp2
      go_end0
      refine ⟨rfl, Hk.out, ?_⟩
      have := HB.out
      rw [hkn.out, altRow_all] at this
      unfold subF
      rw [hx]
      exact this


theorem run_sl_lE {P : Program} {t e : TypeId} (ht : P.underlying t = some (.slice e)) (hs : (P.info? e).map (·.size) = some 1) (bk off n c lo : Nat) (l : Int) (hl : l = lo) (h1 : lo ≤ n) (h3 : lo < c) (W : World) :
    Sem.run P (Instr.slice t (.slice (some ⟨bk, off, none⟩) n c) (some (.int .i64 l)) none none) W = .ok (.slice (some ⟨bk, off + lo, none⟩) (n - lo) (c - lo)) W := by
  have e2 : P.elem t = e := by simp [Program.elem, ht]
  obtain ⟨i, hi', hi1⟩ := Option.map_eq_some_iff.1 hs
  have hz : (sizeOf e).run P W = .ok 1 W := by simp [sizeOf, typeInfo, hi', hi1]
  subst hl
  rw [run_slice_l (w := W) t (some ⟨bk, off, none⟩) n c (by rw [e2]; exact ht) .i64 lo (by omega) (by omega), e2, hz]
  simp only [Result.andThen_ok, sliced, Int.toNat_natCast, Nat.mul_one]
  rw [if_neg (by omega)]
  simp [add_zero_spot]

/-- One element of four cells, which lies in a block, appended to a row of the call's own. -/
theorem run_append_quad {P : Program} {w : World} (base : Nat) (t ty e : TypeId) (z : Value) (bytes : Nat) (ht : P.underlying t = some (.slice e)) (hinfo : (P.info? e).map (fun i => (i.zero, i.size, i.bytes)) = some (some z, 4, bytes)) (hz1 : z.cells.size = 4)
    (A : Option Addr) (n c : Nat) (xs : List Value) (hown : w.ownsRow base e 4 (.slice A n c) n xs) (g : Nat) (tb : TypeId) (y0 y1 y2 y3 : UInt8) (hg : Blk w g tb #[b8 y0, b8 y1, b8 y2, b8 y3])
    (hbytes : (n + 1) * bytes ≤ 140737488355328) (hb : 0 < bytes) (hbase : base ≤ w.heap.size) :
    ∃ A' c' w', (Builtin.append_ #[t, t] ty #[.slice A n c, .slice (some ⟨g, 0, none⟩) 1 1]).run P w = .ok (.slice A' (n + 1) c') w' ∧ w'.ownsRow base e 4 (.slice A' (n + 1) c') (n + 1) (xs ++ [b8 y0, b8 y1, b8 y2, b8 y3]) ∧ w.grownBy w' (blkOf A) := by
  obtain ⟨i, hi, hzz⟩ := Option.map_eq_some_iff.1 hinfo
  simp only [Prod.mk.injEq] at hzz
  obtain ⟨hz, hsz, hby⟩ := hzz
  have h63 : n + 1 ≤ maxLen := by
    have : n + 1 ≤ (n + 1) * bytes := Nat.le_mul_of_pos_right _ hb
    unfold maxLen; omega
  have hnews : ∀ j u, ([b8 y0, b8 y1, b8 y2, b8 y3] : List Value)[j]? = some u → w.cell? ((⟨g, 0, none⟩ : Addr).add j) = some u := by
    intro j u hu
    have hj : j < 4 := by have := (List.getElem?_eq_some_iff.1 hu).1; simpa using this
    rw [add_zero_spot, Nat.zero_add, hg.cell]
    have : j = 0 ∨ j = 1 ∨ j = 2 ∨ j = 3 := by omega
    rcases this with rfl | rfl | rfl | rfl <;> simpa using hu
  obtain ⟨v', w', hrun, h2, h3, _⟩ := run_append_own (P := P) w base t ty e i z 4 bytes ht hi hz hsz hby hz1 (by omega) (.slice A n c) n xs hown ⟨g, 0, none⟩ 1 1 [b8 y0, b8 y1, b8 y2, b8 y3] rfl hnews (by intro u hu; simp only [List.mem_cons, List.not_mem_nil, or_false] at hu; rcases hu with rfl | rfl | rfl | rfl <;> rfl) h63 hbytes hbase
  have hv : ∃ A' c', v' = .slice A' (n + 1) c' := by
    rcases h2.2 with ⟨rfl, hh⟩ | ⟨g, cap, cur, rfl, _⟩
    · omega
    · exact ⟨_, _, rfl⟩
  obtain ⟨A', c', rfl⟩ := hv
  have hblk : (Value.slice A n c).ownBlock = blkOf A := by cases A <;> rfl
  rw [hblk] at h3
  exact ⟨A', c', w', hrun, h2, h3⟩
theorem step_append_quad {P : Program} {ops : Array Oper} {o : Oper} {a : Act} {w : World} {K : Act → World → Prop} {Q : Exit → Act → World → Prop} {E : Prop}
    (hg : o.guard = none) (s x : Operand) (t : TypeId) (ho : o.op = .call { callee := .builtin .append, args := #[s, x], argTypes := #[t, t] })
    (base : Nat) (e : TypeId) (z : Value) (bytes : Nat) (ht : P.underlying t = some (.slice e)) (hinfo : (P.info? e).map (fun i => (i.zero, i.size, i.bytes)) = some (some z, 4, bytes)) (hz1 : z.cells.size = 4)
    (A : Option Addr) (n c : Nat) (xs : List Value) (hs : a.eval s = .slice A n c) (hown : w.ownsRow base e 4 (.slice A n c) n xs) (g : Nat) (hx : a.eval x = .slice (some ⟨g, 0, none⟩) 1 1) (tb : TypeId) (y0 y1 y2 y3 : UInt8) (hgb : Blk w g tb #[b8 y0, b8 y1, b8 y2, b8 y3])
    (hbytes : (n + 1) * bytes ≤ 140737488355328) (hb : 0 < bytes) (hbase : base ≤ w.heap.size)
    (h : ∀ A' c' w', w'.ownsRow base e 4 (.slice A' (n + 1) c') (n + 1) (xs ++ [b8 y0, b8 y1, b8 y2, b8 y3]) → w.grownBy w' (blkOf A) → K (a.put o.dst (.slice A' (n + 1) c')) w') :
    if Region.wanted o (yielded ops a.tmps) = true then Oper.wp P o a w K Q else E := by
  have hw : Region.wanted o (yielded ops a.tmps) = true := by simp [Region.wanted, hg]
  rw [if_pos hw]
  obtain ⟨A', c', w', hrun, h2, h3⟩ := run_append_quad (P := P) (w := w) base t o.type e z bytes ht hinfo hz1 A n c xs hown g tb y0 y1 y2 y3 hgb hbytes hb hbase
  unfold Oper.wp
  simp only [execOp, ho, resolve, invoke, builtin, Sem.run_bind, Sem.run_pure, Result.andThen_ok, List.map_toArray, List.map_cons, List.map_nil, hs, hx, hrun]
  exact h A' c' w' h2 h3
/-- A row of words of four bytes reads word by word. -/
theorem own_quad {w : World} {base n c : Nat} {e : TypeId} {A : Option Addr} {ws : List UInt8} (h : w.ownsRow base e 4 (.slice A n c) n (ws.map b8)) (hn : 0 < n) :
    ∃ gw, A = some ⟨gw, 0, none⟩ ∧ base ≤ gw ∧ gw < w.heap.size ∧ n ≤ c ∧ c ≤ maxLen ∧ ∀ j, j < 4 * n → w.cell? ⟨gw, j, none⟩ = some (.int .u8 ((ws.getD j 0).toNat : Int)) := by
  obtain ⟨h1, h2⟩ := h
  rcases h2 with ⟨_, h2⟩ | ⟨g, cap, cur, hv, hb, hg, hnc, hcm, hcs, htake⟩
  · omega
  · cases hv
    refine ⟨g, rfl, hb, (Blk.lt hg : g < w.heap.size), hnc, hcm, fun j hj => ?_⟩
    have hj2 : j < (ws.map b8).length := by rw [h1]; omega
    rw [(show Blk w g e cur from hg).cell]
    have : (ws.map b8)[j]? = cur.toList[j]? := by rw [← htake, List.getElem?_take, if_pos (by omega)]
    rw [← Array.getElem?_toList, ← this, List.getElem?_map, List.getD_eq_getElem?_getD, List.getElem?_eq_getElem (by simpa using hj2)]
    rfl
theorem quad_row {w : World} {gw n p : Nat} {ws : List UInt8} (hl : gw < w.heap.size) (h : ∀ j, j < 4 * n → w.cell? ⟨gw, j, none⟩ = some (.int .u8 ((ws.getD j 0).toNat : Int))) (hp : p < n) {x0 x1 x2 x3 : UInt8}
    (h0 : ws.getD (4 * p) 0 = x0) (h1 : ws.getD (4 * p + 1) 0 = x1) (h2 : ws.getD (4 * p + 2) 0 = x2) (h3 : ws.getD (4 * p + 3) 0 = x3) : SB w (some ⟨gw, p * 4, none⟩) 4 4 [x0, x1, x2, x3] := by
  refine ⟨rfl, Nat.le_refl _, by decide, fun e => (by cases e), fun _ => ⟨gw, p * 4, rfl, hl, fun j hj => ?_⟩⟩
  have hj4 : j = 0 ∨ j = 1 ∨ j = 2 ∨ j = 3 := by omega
  rw [h (p * 4 + j) (by omega)]
  rcases hj4 with rfl | rfl | rfl | rfl
  · rw [show p * 4 + 0 = 4 * p by omega, h0]; rfl
  · rw [show p * 4 + 1 = 4 * p + 1 by omega, h1]; rfl
  · rw [show p * 4 + 2 = 4 * p + 2 by omega, h2]; rfl
  · rw [show p * 4 + 3 = 4 * p + 3 by omega, h3]; rfl
theorem own_keepsE {own : Nat → Prop} {w w' : World} {base size n : Nat} {e : TypeId} {v : Value} {xs : List Value} (h : w.ownsRow base e size v n xs) (k : Keeps own w w') (ho : ∀ g, base ≤ g → ¬ own g) : w'.ownsRow base e size v n xs := by
  obtain ⟨h1, h2⟩ := h
  refine ⟨h1, ?_⟩
  rcases h2 with h2 | ⟨g, cap, cur, hv, hb, hh, r⟩
  · exact Or.inl h2
  · exact Or.inr ⟨g, cap, cur, hv, hb, ((show Blk w g e cur from hh).keeps k (ho g hb)), r⟩
theorem take_quad (key : List UInt8) (p : Nat) (h : 4 * p + 4 ≤ key.length) : key.take (4 * p) ++ [key.getD (4 * p) 0, key.getD (4 * p + 1) 0, key.getD (4 * p + 2) 0, key.getD (4 * p + 3) 0] = key.take (4 * (p + 1)) := by
  apply List.ext_getElem
  · simp; omega
  · intro i h1 h2
    simp only [List.length_take] at h2
    rw [List.getElem_take]
    by_cases hi : i < 4 * p
    · rw [List.getElem_append_left (by simp; omega), List.getElem_take]
    · rw [List.getElem_append_right (by simp; omega)]
      have hm : min (4 * p) key.length = 4 * p := by omega
      obtain ⟨j, rfl⟩ : ∃ j, i = 4 * p + j := ⟨i - 4 * p, by omega⟩
      have hj : j = 0 ∨ j = 1 ∨ j = 2 ∨ j = 3 := by omega
      rcases hj with rfl | rfl | rfl | rfl <;> simp [hm, List.getElem?_eq_getElem (show 4 * p < key.length by omega), List.getElem?_eq_getElem (show 4 * p + 1 < key.length by omega), List.getElem?_eq_getElem (show 4 * p + 2 < key.length by omega), List.getElem?_eq_getElem (show 4 * p + 3 < key.length by omega)]
def w4 (ws : List UInt8) (i : Nat) : List UInt8 := [ws.getD (4 * i) 0, ws.getD (4 * i + 1) 0, ws.getD (4 * i + 2) 0, ws.getD (4 * i + 3) 0]
def rot4 (ws : List UInt8) (i : Nat) : List UInt8 := [ws.getD (4 * i + 1) 0, ws.getD (4 * i + 2) 0, ws.getD (4 * i + 3) 0, ws.getD (4 * i) 0]
/-- The word that comes next: i words stand (i = m + p). -/
def exW (T : List UInt8) (m p : Nat) (ws : List UInt8) (s : UInt8) : List UInt8 :=
  xorF (if (m + p) % m = 0 then (subF T (rot4 ws (p + (m - 1)))).set 0 ((subF T (rot4 ws (p + (m - 1)))).getD 0 0 ^^^ s) else if 6 < m ∧ (m + p) % m = 4 then subF T (w4 ws (p + (m - 1))) else w4 ws (p + (m - 1))) (w4 ws p)
def exF (T key : List UInt8) (m : Nat) : Nat → List UInt8 × UInt8
  | 0 => (key, 1)
  | p + 1 => ((exF T key m p).1 ++ exW T m p (exF T key m p).1 (exF T key m p).2, if (m + p) % m = 0 then dblF (exF T key m p).2 else (exF T key m p).2)
theorem exW_len (T : List UInt8) (m p : Nat) (ws : List UInt8) (s : UInt8) : (exW T m p ws s).length = 4 := by
  unfold exW
  rw [xorF_len]
  split
  · simp [subF, rot4, w4]
  · split <;> simp [subF, w4]
theorem exF_len (T key : List UInt8) (m : Nat) (h : key.length = 4 * m) : ∀ p, (exF T key m p).1.length = 4 * (m + p)
  | 0 => by simpa [exF] using h
  | p + 1 => by rw [exF]; simp only [List.length_append, exF_len T key m h p, exW_len]; omega
theorem Try.infoQ : (Try.prog.info? 50).map (fun i => (i.zero, i.size, i.bytes)) = some (some (.agg #[.int .u8 0, .int .u8 0, .int .u8 0, .int .u8 0]), 4, 4) := by kernel_rfl
end Go.Proofs.Ythcmdjaccjghjaa
