/-
  The walk of ghash.Sum.
-/
import Derived.Test.YthcmdjaccjghjaaGhashLe
import Derived.Deep.Cut
import Derived.ScopeJumps
import Derived.WalkMore
namespace Go.Proofs.Ythcmdjaccjghjaa
open Go Go.RowKit
set_option linter.unusedSimpArgs false


def pad16 (xs : List UInt8) : List UInt8 := xs ++ List.replicate (16 - xs.length) 0
theorem pad16_len (xs : List UInt8) (h : xs.length ≤ 16) : (pad16 xs).length = 16 := by simp [pad16]; omega
/-- The sum, from y on, of n blocks of bytes. -/
def sumE (ka kb : UInt64) : Nat → UInt64 → UInt64 → List UInt8 → List UInt8
  | 0, a, b, _ => blockF a b
  | n + 1, a, b, bs => sumE ka kb n (mulA (a ^^^ hiF (pad16 (bs.take 16))) (b ^^^ loF (pad16 (bs.take 16))) ka kb) (mulBB (a ^^^ hiF (pad16 (bs.take 16))) (b ^^^ loF (pad16 (bs.take 16))) ka kb) (bs.drop 16)
theorem sumE_len (ka kb : UInt64) (n : Nat) (a b : UInt64) (bs : List UInt8) : (sumE ka kb n a b bs).length = 16 := by
  induction n generalizing a b bs with
  | zero => exact blockF_len _ _
  | succ n ih => exact ih _ _ _
def sumF (hs bs : List UInt8) : List UInt8 := sumE (hiF hs) (loF hs) ((bs.length + 15) / 16) 0 0 bs
theorem splice_pad (xs : List UInt8) (_ : xs.length ≤ 16) : splice (List.replicate 16 (0 : UInt8)) 0 xs = pad16 xs := by
  simp only [splice, pad16, List.take_zero, List.nil_append, Nat.zero_add, List.drop_replicate]
def lenOf : Value → Nat | .slice _ n _ => n | _ => 0
theorem SB.fromS {w : World} {A : Option Addr} {l c k : Nat} {bs : List UInt8} (h : SB w A l c bs) (hk : k ≤ l) : SB w (if c = k then A else A.map (·.add k)) (l - k) (c - k) (bs.drop k) := by
  obtain ⟨h1, h2, h3, h4, h5⟩ := h
  refine ⟨by rw [List.length_map, List.length_drop, ← h1, List.length_map], by omega, by omega, fun e => ?_, fun hpos => ?_⟩
  · by_cases hc : c = k
    · omega
    · rw [if_neg hc] at e
      cases A with
      | none => have := h4 rfl; omega
      | some a => cases e
  · obtain ⟨b, off, rfl, hb, hcell⟩ := h5 (by omega)
    refine ⟨b, off + k, by rw [if_neg (by omega), Option.map_some, add_zero_spot], hb, fun j hj => ?_⟩
    rw [Nat.add_assoc, hcell (k + j) (by omega), List.map_drop, List.getElem?_drop]
theorem wpList_copy_grown {P : Program} {w : World} {ops : Array Oper} {rest : List Oper} {o : Oper} {a : Act} {Q : Exit → Act → World → Prop} (hgd : o.guard = none) (d s : Operand) (dT sT : TypeId)
    (ho : o.op = .call { callee := .builtin .copy, args := #[d, s], argTypes := #[dT, sT] }) (elem : TypeId) (hu : P.underlying dT = some (.slice elem)) (hsz : (P.info? elem).map (·.size) = some 1)
    (g off dLen dCap : Nat) (hd : a.eval d = .slice (some ⟨g, off, none⟩) dLen dCap) (ad : Addr) (sLen sCap : Nat) (hs : a.eval s = .slice (some ad) sLen sCap)
    (cur : List Value) (t : TypeId) (hg : Blk w g t cur.toArray) (cs : List Value) (hn : cs.length = Nat.min sLen dLen) (hsrc : ∀ j v, cs[j]? = some v → w.cell? (ad.add j) = some v)
    (hfit : off + cs.length ≤ cur.length) (h1 : ∀ v ∈ cs, v.oneCell' = true)
    (h : ∀ w', Blk w' g t (splice cur off cs).toArray → w.grownBy w' (some g) → wpList P ops Q rest (a.put o.dst (goInt cs.length)) w') : wpList P ops Q (o :: rest) a w := by
  refine wpList_copy_own hgd d s dT sT ho elem hu hsz g off dLen dCap ad sLen sCap hd hs cur.toArray t hg cs hn hsrc (by simpa using hfit) h1 ?_
  exact h _ (show _ = _ by simpa [splice] using setRow_heap w g _ _ t _ hg) ⟨rfl, rfl, rfl, by simp, fun k _ hk => setRow_other w g k _ (fun e => hk (by rw [e]))⟩
/-- What stands in memory at the label. -/
def SumI (w W : World) (g8 : Nat) (ka kb a b : UInt64) : Prop :=
  Grows w W ∧ w.heap.size + 5 ≤ g8 ∧ g8 < W.heap.size ∧ Blk W (w.heap.size + 1) 23 ((List.replicate 16 (0 : UInt8)).map b8).toArray ∧ Blk W (w.heap.size + 2) 64 #[.int .u64 a.toNat, .int .u64 b.toNat] ∧
    (∃ x y : UInt64, Blk W (w.heap.size + 3) 64 #[.int .u64 x.toNat, .int .u64 y.toNat]) ∧ (∃ xs : List UInt8, xs.length = 16 ∧ Blk W (w.heap.size + 4) 23 (xs.map b8).toArray) ∧ Blk W g8 64 #[.int .u64 ka.toNat, .int .u64 kb.toNat]

theorem SumI.grows {w W W' : World} {g8 : Nat} {ka kb a b : UInt64} (h : SumI w W g8 ka kb a b) (g : Grows W W') : SumI w W' g8 ka kb a b := by
  obtain ⟨h1, h2, h3, h4, h5, ⟨x, y, h6⟩, ⟨xs, hl, h7⟩, h8⟩ := h
  exact ⟨h1.trans g, h2, Nat.lt_of_lt_of_le h3 g.le, h4.grows g, h5.grows g, ⟨x, y, h6.grows g⟩, ⟨xs, hl, h7.grows g⟩, h8.grows g⟩
theorem SumI.x {w W W' : World} {g8 : Nat} {ka kb a b : UInt64} (h : SumI w W g8 ka kb a b) (g : W.grownBy W' (some (w.heap.size + 4))) (xs : List UInt8) (hl : xs.length = 16) (hx : Blk W' (w.heap.size + 4) 23 (xs.map b8).toArray) : SumI w W' g8 ka kb a b := by
  obtain ⟨h1, h2, h3, h4, h5, ⟨x, y, h6⟩, _, h8⟩ := h
  have hne : ∀ k, k ≠ w.heap.size + 4 → some k ≠ some (w.heap.size + 4) := fun k hk e => hk (by cases e; rfl)
  have h8' := h8.grown g (hne _ (by omega))
  exact ⟨h1.grown g (fun k hk => by cases hk; omega), h2, h8'.lt, h4.grown g (hne _ (by omega)), h5.grown g (hne _ (by omega)), ⟨x, y, h6.grown g (hne _ (by omega))⟩, ⟨xs, hl, hx⟩, h8'⟩
theorem SumI.e {w W : World} {g8 : Nat} {ka kb a b : UInt64} (h : SumI w W g8 ka kb a b) (x y : UInt64) : SumI w ((W.setCell ⟨w.heap.size + 3, 0, none⟩ (.int .u64 x.toNat)).setCell ⟨w.heap.size + 3, 1, none⟩ (.int .u64 y.toNat)) g8 ka kb a b := by
  obtain ⟨h1, h2, h3, h4, h5, ⟨_, _, h6⟩, ⟨xs, hl, h7⟩, h8⟩ := h
  have f : ∀ k, k ≠ w.heap.size + 3 → ∀ i, k ≠ (⟨w.heap.size + 3, i, none⟩ : Addr).block := fun k hk _ => hk
  exact ⟨(h1.setCell (p := ⟨w.heap.size + 3, 0, none⟩) (by simp) _).setCell (p := ⟨w.heap.size + 3, 1, none⟩) (by simp) _, h2, by simpa [World.setCell] using h3, (h4.far (f _ (by omega) _) _).far (f _ (by omega) _) _, (h5.far (f _ (by omega) _) _).far (f _ (by omega) _) _,
    ⟨x, y, (h6.set 0 _).set 1 _⟩, ⟨xs, hl, (h7.far (f _ (by omega) _) _).far (f _ (by omega) _) _⟩, (h8.far (f _ (by omega) _) _).far (f _ (by omega) _) _⟩
theorem SumI.y {w W : World} {g8 : Nat} {ka kb a b : UInt64} (h : SumI w W g8 ka kb a b) (x y : UInt64) : SumI w ((W.setCell ⟨w.heap.size + 2, 0, none⟩ (.int .u64 x.toNat)).setCell ⟨w.heap.size + 2, 1, none⟩ (.int .u64 y.toNat)) g8 ka kb x y := by
  obtain ⟨h1, h2, h3, h4, h5, ⟨ex, ey, h6⟩, ⟨xs, hl, h7⟩, h8⟩ := h
  have f : ∀ k, k ≠ w.heap.size + 2 → ∀ i, k ≠ (⟨w.heap.size + 2, i, none⟩ : Addr).block := fun k hk _ => hk
  exact ⟨(h1.setCell (p := ⟨w.heap.size + 2, 0, none⟩) (by simp) _).setCell (p := ⟨w.heap.size + 2, 1, none⟩) (by simp) _, h2, by simpa [World.setCell] using h3, (h4.far (f _ (by omega) _) _).far (f _ (by omega) _) _, (h5.set 0 _).set 1 _,
    ⟨ex, ey, (h6.far (f _ (by omega) _) _).far (f _ (by omega) _) _⟩, ⟨xs, hl, (h7.far (f _ (by omega) _) _).far (f _ (by omega) _) _⟩, (h8.far (f _ (by omega) _) _).far (f _ (by omega) _) _⟩

set_option maxRecDepth 100000 in
set_option maxHeartbeats 4000000 in
theorem sum_any (hs bs : List UInt8) (A : Option Addr) (n c : Nat) (hh : hs.length = 16) (w : World) (hb : SB w A n c bs) :
    Calls Try.prog 12 #[.agg (hs.map b8).toArray, .slice A n c] w fun e w' => e = .returned (.agg ((sumF hs bs).map b8).toArray) ∧ Grows w w' := by
  obtain ⟨W0, HW0, hW0, hg0⟩ : ∃ W0 : World, Hid (W0 = ((((w.alloc (.cells (hs.map b8).toArray 23)).alloc (.cells #[.int .u8 0, .int .u8 0, .int .u8 0, .int .u8 0, .int .u8 0, .int .u8 0, .int .u8 0, .int .u8 0, .int .u8 0, .int .u8 0, .int .u8 0, .int .u8 0, .int .u8 0, .int .u8 0, .int .u8 0, .int .u8 0] 23)).alloc (.cells #[.int .u64 0, .int .u64 0] 64)).alloc (.cells #[.int .u64 0, .int .u64 0] 64)).alloc (.cells #[.int .u8 0, .int .u8 0, .int .u8 0, .int .u8 0, .int .u8 0, .int .u8 0, .int .u8 0, .int .u8 0, .int .u8 0, .int .u8 0, .int .u8 0, .int .u8 0, .int .u8 0, .int .u8 0, .int .u8 0, .int .u8 0] 23)) ∧ W0.heap.size = w.heap.size + 5 ∧ Grows w W0 := ⟨_, lib_hid rfl, by simp, (((((Grows.refl w).alloc _).alloc _).alloc _).alloc _).alloc _⟩
  have HB0 : Hid (Blk W0 w.heap.size 23 (hs.map b8).toArray) := by
    unfold Hid; rw [HW0.out]; have := ((((Blk.new (w) 23 (hs.map b8).toArray).alloc (.cells #[.int .u8 0, .int .u8 0, .int .u8 0, .int .u8 0, .int .u8 0, .int .u8 0, .int .u8 0, .int .u8 0, .int .u8 0, .int .u8 0, .int .u8 0, .int .u8 0, .int .u8 0, .int .u8 0, .int .u8 0, .int .u8 0] 23)).alloc (.cells #[.int .u64 0, .int .u64 0] 64)).alloc (.cells #[.int .u64 0, .int .u64 0] 64)).alloc (.cells #[.int .u8 0, .int .u8 0, .int .u8 0, .int .u8 0, .int .u8 0, .int .u8 0, .int .u8 0, .int .u8 0, .int .u8 0, .int .u8 0, .int .u8 0, .int .u8 0, .int .u8 0, .int .u8 0, .int .u8 0, .int .u8 0] 23); simpa using this
  have HB1 : Hid (Blk W0 (w.heap.size + 1) 23 #[.int .u8 0, .int .u8 0, .int .u8 0, .int .u8 0, .int .u8 0, .int .u8 0, .int .u8 0, .int .u8 0, .int .u8 0, .int .u8 0, .int .u8 0, .int .u8 0, .int .u8 0, .int .u8 0, .int .u8 0, .int .u8 0]) := by
    unfold Hid; rw [HW0.out]; have := (((Blk.new (w.alloc (.cells (hs.map b8).toArray 23)) 23 #[.int .u8 0, .int .u8 0, .int .u8 0, .int .u8 0, .int .u8 0, .int .u8 0, .int .u8 0, .int .u8 0, .int .u8 0, .int .u8 0, .int .u8 0, .int .u8 0, .int .u8 0, .int .u8 0, .int .u8 0, .int .u8 0]).alloc (.cells #[.int .u64 0, .int .u64 0] 64)).alloc (.cells #[.int .u64 0, .int .u64 0] 64)).alloc (.cells #[.int .u8 0, .int .u8 0, .int .u8 0, .int .u8 0, .int .u8 0, .int .u8 0, .int .u8 0, .int .u8 0, .int .u8 0, .int .u8 0, .int .u8 0, .int .u8 0, .int .u8 0, .int .u8 0, .int .u8 0, .int .u8 0] 23); simpa using this
  have HB2 : Hid (Blk W0 (w.heap.size + 2) 64 #[.int .u64 0, .int .u64 0]) := by
    unfold Hid; rw [HW0.out]; have := ((Blk.new ((w.alloc (.cells (hs.map b8).toArray 23)).alloc (.cells #[.int .u8 0, .int .u8 0, .int .u8 0, .int .u8 0, .int .u8 0, .int .u8 0, .int .u8 0, .int .u8 0, .int .u8 0, .int .u8 0, .int .u8 0, .int .u8 0, .int .u8 0, .int .u8 0, .int .u8 0, .int .u8 0] 23)) 64 #[.int .u64 0, .int .u64 0]).alloc (.cells #[.int .u64 0, .int .u64 0] 64)).alloc (.cells #[.int .u8 0, .int .u8 0, .int .u8 0, .int .u8 0, .int .u8 0, .int .u8 0, .int .u8 0, .int .u8 0, .int .u8 0, .int .u8 0, .int .u8 0, .int .u8 0, .int .u8 0, .int .u8 0, .int .u8 0, .int .u8 0] 23); simpa using this
  have HB3 : Hid (Blk W0 (w.heap.size + 3) 64 #[.int .u64 0, .int .u64 0]) := by
    unfold Hid; rw [HW0.out]; have := (Blk.new (((w.alloc (.cells (hs.map b8).toArray 23)).alloc (.cells #[.int .u8 0, .int .u8 0, .int .u8 0, .int .u8 0, .int .u8 0, .int .u8 0, .int .u8 0, .int .u8 0, .int .u8 0, .int .u8 0, .int .u8 0, .int .u8 0, .int .u8 0, .int .u8 0, .int .u8 0, .int .u8 0] 23)).alloc (.cells #[.int .u64 0, .int .u64 0] 64)) 64 #[.int .u64 0, .int .u64 0]).alloc (.cells #[.int .u8 0, .int .u8 0, .int .u8 0, .int .u8 0, .int .u8 0, .int .u8 0, .int .u8 0, .int .u8 0, .int .u8 0, .int .u8 0, .int .u8 0, .int .u8 0, .int .u8 0, .int .u8 0, .int .u8 0, .int .u8 0] 23); simpa using this
  have HB4 : Hid (Blk W0 (w.heap.size + 4) 23 #[.int .u8 0, .int .u8 0, .int .u8 0, .int .u8 0, .int .u8 0, .int .u8 0, .int .u8 0, .int .u8 0, .int .u8 0, .int .u8 0, .int .u8 0, .int .u8 0, .int .u8 0, .int .u8 0, .int .u8 0, .int .u8 0]) := by
    unfold Hid; rw [HW0.out]; have := Blk.new ((((w.alloc (.cells (hs.map b8).toArray 23)).alloc (.cells #[.int .u8 0, .int .u8 0, .int .u8 0, .int .u8 0, .int .u8 0, .int .u8 0, .int .u8 0, .int .u8 0, .int .u8 0, .int .u8 0, .int .u8 0, .int .u8 0, .int .u8 0, .int .u8 0, .int .u8 0, .int .u8 0] 23)).alloc (.cells #[.int .u64 0, .int .u64 0] 64)).alloc (.cells #[.int .u64 0, .int .u64 0] 64)) 23 #[.int .u8 0, .int .u8 0, .int .u8 0, .int .u8 0, .int .u8 0, .int .u8 0, .int .u8 0, .int .u8 0, .int .u8 0, .int .u8 0, .int .u8 0, .int .u8 0, .int .u8 0, .int .u8 0, .int .u8 0, .int .u8 0]; simpa using this
  obtain ⟨ka, Hka⟩ : ∃ v, Hid (hiF hs = v) := ⟨_, lib_hid rfl⟩
  obtain ⟨kb, Hkb⟩ : ∃ v, Hid (loF hs = v) := ⟨_, lib_hid rfl⟩
  have Hof : Hid (∀ W, Calls Try.prog 31 #[.agg (hs.map b8).toArray] W fun e w' => e = .returned (eV ka kb) ∧ Grows W w') := by
    have := of_any hs hh
    rw [Hka.out, Hkb.out] at this
    exact this
  obtain ⟨za, Hza⟩ : ∃ z : UInt64, Hid (z = 0) := ⟨_, lib_hid rfl⟩
  obtain ⟨fin, Hfin⟩ : ∃ v, Hid (sumE ka kb ((bs.length + 15) / 16) za za bs = v) := ⟨_, lib_hid rfl⟩
  have HF : Hid (sumF hs bs = fin) := by unfold Hid sumF; rw [Hka.out, Hkb.out, ← Hza.out]; exact Hfin.out
  have hsl := lib_hid hh
  have HS := lib_hid hb
  have HW0' := HW0.out
  clear hh hb
  go_enter Try.func12, Try.ntmps12
  go_wp2_with fail
  refine wp_scope_jumps 0 (fun a' W => ∃ (A : Option Addr) (n c : Nat) (bs : List UInt8) (a b : UInt64) (g8 : Nat) (u9 u10 u11 u12 u13 u14 u15 u16 u17 u18 u19 u20 u21 u22 u23 u24 u25 u26 u27 u28 u29 u30 u31 u32 u33 u34 u35 u36 : Value), a' = { tmps := #[.agg (hs.map b8).toArray, .slice A n c, .pointer (some ⟨w.heap.size, 0, none⟩), undef, .pointer (some ⟨w.heap.size + 1, 0, none⟩), .pointer (some ⟨w.heap.size + 2, 0, none⟩), .pointer (some ⟨w.heap.size + 3, 0, none⟩), .pointer (some ⟨w.heap.size + 4, 0, none⟩), .pointer (some ⟨g8, 0, none⟩), u9, u10, u11, u12, u13, u14, u15, u16, u17, u18, u19, u20, u21, u22, u23, u24, u25, u26, u27, u28, u29, u30, u31, u32, u33, u34, u35, u36], defers := [] } ∧ SumI w W g8 ka kb a b ∧ Hid (SB w A n c bs) ∧ Hid (sumE ka kb ((bs.length + 15) / 16) a b bs = fin)) (fun a' _ => lenOf (a'.tmps.getD 1 undef)) rfl ?_ ?_
  · go_upto_region 3 with fail
    rw [← HW0']
    clear HW0'
    go_wp2_with (refine wpList_load_blk rfl _ _ rfl w.heap.size rfl 23 (hs.map b8).toArray _ HB0.out Try.underlying23 rfl (by rw [Try.size16]; simp [hsl.out]) ?_)
    refine (Hof.out W0).mono ?_
    rintro e w1 ⟨rfl, hg1⟩
    go_wp2_with fail
    obtain ⟨g8, Hg8⟩ : ∃ g, Hid (w1.heap.size = g) := ⟨_, lib_hid rfl⟩
    obtain ⟨W, HW⟩ : ∃ W : World, Hid (W = w1.alloc (.cells #[.int .u64 ka.toNat, .int .u64 kb.toNat] 64)) := ⟨_, lib_hid rfl⟩
    have hgW : Grows W0 W := by rw [HW.out]; exact hg1.alloc _
    have HS1 := HS
    have hI : SumI w W g8 ka kb za za := by
      refine ⟨hg0.trans hgW, ?_, ?_, ?_, by rw [Hza.out]; exact HB2.out.grows hgW, ⟨0, 0, HB3.out.grows hgW⟩, ⟨List.replicate 16 0, by simp, ?_⟩, ?_⟩
      · have := hg1.le; rw [← Hg8.out]; omega
      · rw [HW.out, ← Hg8.out]; simp
      · have := HB1.out.grows hgW; rw [show (#[.int .u8 0, .int .u8 0, .int .u8 0, .int .u8 0, .int .u8 0, .int .u8 0, .int .u8 0, .int .u8 0, .int .u8 0, .int .u8 0, .int .u8 0, .int .u8 0, .int .u8 0, .int .u8 0, .int .u8 0, .int .u8 0] : Array Value) = ((List.replicate 16 (0 : UInt8)).map b8).toArray from zeros16] at this; exact this
      · have := HB4.out.grows hgW; rw [show (#[.int .u8 0, .int .u8 0, .int .u8 0, .int .u8 0, .int .u8 0, .int .u8 0, .int .u8 0, .int .u8 0, .int .u8 0, .int .u8 0, .int .u8 0, .int .u8 0, .int .u8 0, .int .u8 0, .int .u8 0, .int .u8 0] : Array Value) = ((List.replicate 16 (0 : UInt8)).map b8).toArray from zeros16] at this; exact this
      · rw [HW.out, ← Hg8.out]; exact Blk.new _ _ _
    rw [← HW.out, Hg8.out]
    clear HB0 HB1 HB2 HB3 HB4 hgW hW0 hg0 hg1
    go_step3
    have HI := lib_hid hI
    obtain ⟨hgw, h5, h8, hR, hY, ⟨ex, ey, hEE⟩, ⟨xb, hxb, hX⟩, hK⟩ := hI
    have hlen := lib_hid HS1.out.len
    have hcn := HS1.out.cap
    by_cases hz : n = 0
    · have h0 : (n : Int) = 0 := by omega
      have cY0 : W.cell? ⟨w.heap.size + 2, 0, none⟩ = some (.int .u64 za.toNat) := hY.cell 0
      have cY1 : W.cell? ⟨w.heap.size + 2, 1, none⟩ = some (.int .u64 za.toNat) := hY.cell 1
      have HR := lib_hid hR
      have hfin : Hid (blockF za za = fin) := by
        have := Hfin.out
        rw [hlen.out, hz] at this
        exact this
      clear hY hEE hX hK hR
      go_wp2_with fail
      refine (block_any za za W).mono ?_
      rintro e w2 ⟨rfl, hg2⟩
      rw [hfin.out]
      obtain ⟨res, hres, hrl, hra⟩ : ∃ r : Array Value, Hid ((fin.map b8).toArray = r) ∧ r.size = 16 ∧ r.all (·.oneCell') = true := ⟨_, lib_hid rfl, by rw [← hfin.out]; simp [blockF_len], cells_all _⟩
      rw [hres.out]
      have HR2 := lib_hid (HR.out.grows hg2)
      clear HR cY0 cY1
      go_wp2_with (refine wpList_store_blk rfl _ _ _ rfl (w.heap.size + 1) res rfl rfl _ _ HR2.out (by rw [Try.size16, hrl]) (by simp [hrl]) hra (w.heap.size + 1) w2 (Below.refl _ _) (Nat.le_refl _) ?_; intro w5 HR6 hb5 hgr5)
      (try simp only [Exit.jump])
      refine bodyPost_ret (results_cell_row rfl _ _ (w.heap.size + 1) _ res _ _ rfl HR6 Try.underlying23 rfl (by rw [Try.size16, hrl])) rfl ?_
      exact ⟨by rw [HF.out, hres.out], Below.trans (hgw.trans hg2) (hb5.mono (by omega))⟩
    · have h0 : ¬ (n : Int) = 0 := by omega
      obtain ⟨m, Hm, hmn, hm16, hm0⟩ : ∃ m, Hid (min n 16 = m) ∧ m ≤ n ∧ m ≤ 16 ∧ 0 < m := ⟨_, lib_hid rfl, by omega, by omega, by omega⟩
      obtain ⟨tk, Htk, htl⟩ : ∃ t, Hid (bs.take m = t) ∧ t.length = m := ⟨_, lib_hid rfl, by rw [List.length_take, hlen.out]; omega⟩
      have Htk16 : Hid (bs.take 16 = tk) := by
        unfold Hid
        rw [← Htk.out, ← Hm.out, ← hlen.out, Nat.min_comm, ← List.take_take, List.take_length]
      have Hdr : Hid (bs.drop m = bs.drop 16) := by
        unfold Hid
        rcases Nat.lt_or_ge n 16 with h | h
        · rw [List.drop_of_length_le (by rw [hlen.out, ← Hm.out]; omega), List.drop_of_length_le (by rw [hlen.out]; omega)]
        · rw [show m = 16 by rw [← Hm.out]; omega]
      obtain ⟨x16, Hx16, hxl⟩ : ∃ x, Hid (pad16 tk = x) ∧ Hid (x.length = 16) := ⟨_, lib_hid rfl, pad16_len _ (by omega)⟩
      obtain ⟨ea, Hea⟩ : ∃ v, Hid (hiF x16 = v) := ⟨_, lib_hid rfl⟩
      obtain ⟨eb, Heb⟩ : ∃ v, Hid (loF x16 = v) := ⟨_, lib_hid rfl⟩
      obtain ⟨ya, Hya, hya⟩ : ∃ v : UInt64, Hid (za ^^^ ea = v) ∧ bits .xor .u64 (za.toNat : Int) (ea.toNat : Int) = (v.toNat : Int) := ⟨_, lib_hid rfl, u64_xor _ _⟩
      obtain ⟨yb, Hyb, hyb⟩ : ∃ v : UInt64, Hid (za ^^^ eb = v) ∧ bits .xor .u64 (za.toNat : Int) (eb.toNat : Int) = (v.toNat : Int) := ⟨_, lib_hid rfl, u64_xor _ _⟩
      obtain ⟨ra, Hra⟩ : ∃ v, Hid (mulA ya yb ka kb = v) := ⟨_, lib_hid rfl⟩
      obtain ⟨rb, Hrb⟩ : ∃ v, Hid (mulBB ya yb ka kb = v) := ⟨_, lib_hid rfl⟩
      have Hof2 : Hid (∀ W, Calls Try.prog 31 #[.agg (x16.map b8).toArray] W fun e w' => e = .returned (eV ea eb) ∧ Grows W w') := by
        have := of_any x16 hxl.out
        rw [Hea.out, Heb.out] at this
        exact this
      have Hstep : Hid (sumE ka kb (((bs.drop m).length + 15) / 16) ra rb (bs.drop m) = fin) := by
        have := Hfin.out
        rw [show (bs.length + 15) / 16 = ((bs.drop 16).length + 15) / 16 + 1 by rw [List.length_drop, hlen.out]; omega, sumE, Htk16.out, Hx16.out, Hea.out, Heb.out, Hya.out, Hyb.out, Hra.out, Hrb.out] at this
        unfold Hid; rw [Hdr.out]; exact this
      have HX := lib_hid hX
      clear hR hY hEE hX hK
      go_upto_region 7 with (refine wpList_store_blk rfl _ _ _ rfl (w.heap.size + 4) (#[.int .u8 0, .int .u8 0, .int .u8 0, .int .u8 0, .int .u8 0, .int .u8 0, .int .u8 0, .int .u8 0, .int .u8 0, .int .u8 0, .int .u8 0, .int .u8 0, .int .u8 0, .int .u8 0, .int .u8 0, .int .u8 0]) rfl rfl _ _ HX.out (by rw [Try.size16]; rfl) (by simp [hxb]) (by rw [zeros16]; exact cells_all _) (w.heap.size + 4) W (Below.refl _ _) (Nat.le_refl _) ?_; intro w2 HX2 hb2 hg2)
      rw [show (#[.int .u8 0, .int .u8 0, .int .u8 0, .int .u8 0, .int .u8 0, .int .u8 0, .int .u8 0, .int .u8 0, .int .u8 0, .int .u8 0, .int .u8 0, .int .u8 0, .int .u8 0, .int .u8 0, .int .u8 0, .int .u8 0] : Array Value) = ((List.replicate 16 (0 : UInt8)).map b8).toArray from zeros16] at HX2
      have HI2 := lib_hid (HI.out.x hg2 _ (by simp) HX2)
      have HXz := lib_hid HX2
      obtain ⟨bk, off, eA, _, _⟩ := HS1.out.2.2.2.2 (by omega)
      have hr := (HS1.out.grows HI2.out.1).pre hmn
      rw [Htk.out] at hr
      have HSn := HS1.out.fromS hmn
      have hw2 := HI2.out.1
      subst eA
      have Hsrc := lib_hid (Row.news hr)
      have Hcn : Hid ((tk.map b8).length = Nat.min n 16) := by unfold Hid; rw [List.length_map, htl, ← Hm.out]
      have hmI : (m : Int) ≤ (n : Int) := by omega
      clear HI HX hb2 hg2 HX2 hr hgw hw2 h0
      go_upto_region 8 with (refine wpList_copy_grown rfl _ _ 26 26 rfl 5 Try.underlying26 Try.sizeByte (w.heap.size + 4) 0 16 16 rfl ⟨bk, off, none⟩ n c rfl _ 23 HXz.out (tk.map b8) Hcn.out Hsrc.out (by simp only [List.length_map, List.length_replicate, htl]; omega) (b8_one _) ?_; intro w3 HX3 hg3)
      simp only [Option.map_some, add_zero_spot] at HSn
      generalize (if c = m then (some (⟨bk, off, none⟩ : Addr)) else some ⟨bk, off + m, none⟩) = A2 at HSn ⊢
      have HSd := lib_hid HSn
      have HX4 : Blk w3 (w.heap.size + 4) 23 (x16.map b8).toArray := by
        rw [splice_map, splice_pad tk (by omega), Hx16.out] at HX3
        exact HX3
      have HI3 := HI2.out.x hg3 x16 hxl.out HX4
      have HXf := lib_hid HX4
      clear HX3 HX4 hg3 HSn HXz Hsrc HI2 Hcn hmI
      go_wp2_with (refine wpList_load_blk rfl _ _ rfl (w.heap.size + 4) rfl 23 (x16.map b8).toArray _ HXf.out Try.underlying23 rfl (by rw [Try.size16]; simp [hxl.out]) ?_)
      refine (Hof2.out w3).mono ?_
      rintro e w4 ⟨rfl, hg4⟩
      have HI4 := HI3.grows hg4
      obtain ⟨_, h5', h8', _, hY4, ⟨ex4, ey4, hE4⟩, _, hK4⟩ := HI4
      have cY0 : w4.cell? ⟨w.heap.size + 2, 0, none⟩ = some (.int .u64 (za).toNat) := hY4.cell 0
      have cY1 : w4.cell? ⟨w.heap.size + 2, 1, none⟩ = some (.int .u64 (za).toNat) := hY4.cell 1
      have cE0 : w4.cell? ⟨w.heap.size + 3, 0, none⟩ = some (.int .u64 ex4.toNat) := hE4.cell 0
      have cE1 : w4.cell? ⟨w.heap.size + 3, 1, none⟩ = some (.int .u64 ey4.toNat) := hE4.cell 1
      have fE0 := hE4.frozen 0
      have fE1 := hE4.frozen 1
      have cK0 : w4.cell? ⟨g8, 0, none⟩ = some (.int .u64 ka.toNat) := hK4.cell 0
      have cK1 : w4.cell? ⟨g8, 1, none⟩ = some (.int .u64 kb.toNat) := hK4.cell 1
      have HI5 := lib_hid ((HI3.grows hg4).e ea eb)
      clear HI3 hg4 hY4 hE4 hK4 HXf
      go_wp2_with fail
      refine (times_any ya yb ka kb _).mono ?_
      rintro e w6 ⟨rfl, hg6⟩
      rw [Hra.out, Hrb.out]
      have HI6 := HI5.out.grows hg6
      obtain ⟨_, _, _, _, hY6, _, _, _⟩ := HI6
      have HI7 := lib_hid ((HI5.out.grows hg6).y ra rb)
      have dY0 : w6.cell? ⟨w.heap.size + 2, 0, none⟩ = some (.int .u64 (za).toNat) := hY6.cell 0
      have dY1 : w6.cell? ⟨w.heap.size + 2, 1, none⟩ = some (.int .u64 (za).toNat) := hY6.cell 1
      have gY0 := hY6.frozen 0
      have gY1 := hY6.frozen 1
      clear cY0 cY1 cE0 cE1 fE0 fE1 cK0 cK1 hg6 hY6 HI5
      go_wp2_with fail
      go_step3
      refine ⟨rfl, _, _, _, bs.drop m, ra, rb, g8, _, _, _, _, _, _, _, _, _, _, _, _, _, _, _, _, _, _, _, _, _, _, _, _, _, _, _, _, rfl, HI7.out, HSd, Hstep⟩
  · rintro a' W ⟨A', n', c', bs', a, b, g8, u9, u10, u11, u12, u13, u14, u15, u16, u17, u18, u19, u20, u21, u22, u23, u24, u25, u26, u27, u28, u29, u30, u31, u32, u33, u34, u35, u36, rfl, hI, HS', HE'⟩
    clear HB0 HB1 HB2 HB3 HB4 HS hW0 hg0 Hfin HW0'
    have HI := lib_hid hI
    obtain ⟨hgw, h5, h8, hR, hY, ⟨ex, ey, hEE⟩, ⟨xb, hxb, hX⟩, hK⟩ := hI
    have hlen := lib_hid HS'.out.len
    have hcn := HS'.out.cap
    by_cases hz : n' = 0
    · have h0 : (n' : Int) = 0 := by omega
      have cY0 : W.cell? ⟨w.heap.size + 2, 0, none⟩ = some (.int .u64 (a).toNat) := hY.cell 0
      have cY1 : W.cell? ⟨w.heap.size + 2, 1, none⟩ = some (.int .u64 (b).toNat) := hY.cell 1
      have HR := lib_hid hR
      have hfin : Hid (blockF a b = fin) := by
        have := HE'.out
        rw [hlen.out, hz] at this
        exact this
      clear hY hEE hX hK hR
      go_wp2_with fail
      refine (block_any a b W).mono ?_
      rintro e w2 ⟨rfl, hg2⟩
      rw [hfin.out]
      obtain ⟨res, hres, hrl, hra⟩ : ∃ r : Array Value, Hid ((fin.map b8).toArray = r) ∧ r.size = 16 ∧ r.all (·.oneCell') = true := ⟨_, lib_hid rfl, by rw [← hfin.out]; simp [blockF_len], cells_all _⟩
      rw [hres.out]
      have HR2 := lib_hid (HR.out.grows hg2)
      clear HR cY0 cY1
      go_wp2_with (refine wpList_store_blk rfl _ _ _ rfl (w.heap.size + 1) res rfl rfl _ _ HR2.out (by rw [Try.size16, hrl]) (by simp [hrl]) hra (w.heap.size + 1) w2 (Below.refl _ _) (Nat.le_refl _) ?_; intro w5 HR6 hb5 hgr5)
      (try simp only [Exit.jump])
      refine bodyPost_ret (results_cell_row rfl _ _ (w.heap.size + 1) _ res _ _ rfl HR6 Try.underlying23 rfl (by rw [Try.size16, hrl])) rfl ?_
      exact ⟨by rw [HF.out, hres.out], Below.trans (hgw.trans hg2) (hb5.mono (by omega))⟩
    · have h0 : ¬ (n' : Int) = 0 := by omega
      obtain ⟨m, Hm, hmn, hm16, hm0⟩ : ∃ m, Hid (min n' 16 = m) ∧ m ≤ n' ∧ m ≤ 16 ∧ 0 < m := ⟨_, lib_hid rfl, by omega, by omega, by omega⟩
      obtain ⟨tk, Htk, htl⟩ : ∃ t, Hid (bs'.take m = t) ∧ t.length = m := ⟨_, lib_hid rfl, by rw [List.length_take, hlen.out]; omega⟩
      have Htk16 : Hid (bs'.take 16 = tk) := by
        unfold Hid
        rw [← Htk.out, ← Hm.out, ← hlen.out, Nat.min_comm, ← List.take_take, List.take_length]
      have Hdr : Hid (bs'.drop m = bs'.drop 16) := by
        unfold Hid
        rcases Nat.lt_or_ge n' 16 with h | h
        · rw [List.drop_of_length_le (by rw [hlen.out, ← Hm.out]; omega), List.drop_of_length_le (by rw [hlen.out]; omega)]
        · rw [show m = 16 by rw [← Hm.out]; omega]
      obtain ⟨x16, Hx16, hxl⟩ : ∃ x, Hid (pad16 tk = x) ∧ Hid (x.length = 16) := ⟨_, lib_hid rfl, pad16_len _ (by omega)⟩
      obtain ⟨ea, Hea⟩ : ∃ v, Hid (hiF x16 = v) := ⟨_, lib_hid rfl⟩
      obtain ⟨eb, Heb⟩ : ∃ v, Hid (loF x16 = v) := ⟨_, lib_hid rfl⟩
      obtain ⟨ya, Hya, hya⟩ : ∃ v : UInt64, Hid (a ^^^ ea = v) ∧ bits .xor .u64 (a.toNat : Int) (ea.toNat : Int) = (v.toNat : Int) := ⟨_, lib_hid rfl, u64_xor _ _⟩
      obtain ⟨yb, Hyb, hyb⟩ : ∃ v : UInt64, Hid (b ^^^ eb = v) ∧ bits .xor .u64 (b.toNat : Int) (eb.toNat : Int) = (v.toNat : Int) := ⟨_, lib_hid rfl, u64_xor _ _⟩
      obtain ⟨ra, Hra⟩ : ∃ v, Hid (mulA ya yb ka kb = v) := ⟨_, lib_hid rfl⟩
      obtain ⟨rb, Hrb⟩ : ∃ v, Hid (mulBB ya yb ka kb = v) := ⟨_, lib_hid rfl⟩
      have Hof2 : Hid (∀ W, Calls Try.prog 31 #[.agg (x16.map b8).toArray] W fun e w' => e = .returned (eV ea eb) ∧ Grows W w') := by
        have := of_any x16 hxl.out
        rw [Hea.out, Heb.out] at this
        exact this
      have Hstep : Hid (sumE ka kb (((bs'.drop m).length + 15) / 16) ra rb (bs'.drop m) = fin) := by
        have := HE'.out
        rw [show (bs'.length + 15) / 16 = ((bs'.drop 16).length + 15) / 16 + 1 by rw [List.length_drop, hlen.out]; omega, sumE, Htk16.out, Hx16.out, Hea.out, Heb.out, Hya.out, Hyb.out, Hra.out, Hrb.out] at this
        unfold Hid; rw [Hdr.out]; exact this
      have HX := lib_hid hX
      clear hR hY hEE hX hK
      go_upto_region 7 with (refine wpList_store_blk rfl _ _ _ rfl (w.heap.size + 4) (#[.int .u8 0, .int .u8 0, .int .u8 0, .int .u8 0, .int .u8 0, .int .u8 0, .int .u8 0, .int .u8 0, .int .u8 0, .int .u8 0, .int .u8 0, .int .u8 0, .int .u8 0, .int .u8 0, .int .u8 0, .int .u8 0]) rfl rfl _ _ HX.out (by rw [Try.size16]; rfl) (by simp [hxb]) (by rw [zeros16]; exact cells_all _) (w.heap.size + 4) W (Below.refl _ _) (Nat.le_refl _) ?_; intro w2 HX2 hb2 hg2)
      rw [show (#[.int .u8 0, .int .u8 0, .int .u8 0, .int .u8 0, .int .u8 0, .int .u8 0, .int .u8 0, .int .u8 0, .int .u8 0, .int .u8 0, .int .u8 0, .int .u8 0, .int .u8 0, .int .u8 0, .int .u8 0, .int .u8 0] : Array Value) = ((List.replicate 16 (0 : UInt8)).map b8).toArray from zeros16] at HX2
      have HI2 := lib_hid (HI.out.x hg2 _ (by simp) HX2)
      have HXz := lib_hid HX2
      obtain ⟨bk, off, eA, _, _⟩ := HS'.out.2.2.2.2 (by omega)
      have hr := (HS'.out.grows HI2.out.1).pre hmn
      rw [Htk.out] at hr
      have HSn := HS'.out.fromS hmn
      have hw2 := HI2.out.1
      subst eA
      have Hsrc := lib_hid (Row.news hr)
      have Hcn : Hid ((tk.map b8).length = Nat.min n' 16) := by unfold Hid; rw [List.length_map, htl, ← Hm.out]
      have hmI : (m : Int) ≤ (n' : Int) := by omega
      clear HI HX hb2 hg2 HX2 hr hgw hw2 h0
      go_upto_region 8 with (refine wpList_copy_grown rfl _ _ 26 26 rfl 5 Try.underlying26 Try.sizeByte (w.heap.size + 4) 0 16 16 rfl ⟨bk, off, none⟩ n' c' rfl _ 23 HXz.out (tk.map b8) Hcn.out Hsrc.out (by simp only [List.length_map, List.length_replicate, htl]; omega) (b8_one _) ?_; intro w3 HX3 hg3)
      simp only [Option.map_some, add_zero_spot] at HSn
      generalize (if c' = m then (some (⟨bk, off, none⟩ : Addr)) else some ⟨bk, off + m, none⟩) = A2 at HSn ⊢
      have HSd := lib_hid HSn
      have HX4 : Blk w3 (w.heap.size + 4) 23 (x16.map b8).toArray := by
        rw [splice_map, splice_pad tk (by omega), Hx16.out] at HX3
        exact HX3
      have HI3 := HI2.out.x hg3 x16 hxl.out HX4
      have HXf := lib_hid HX4
      clear HX3 HX4 hg3 HSn HXz Hsrc HI2 Hcn hmI
      go_wp2_with (refine wpList_load_blk rfl _ _ rfl (w.heap.size + 4) rfl 23 (x16.map b8).toArray _ HXf.out Try.underlying23 rfl (by rw [Try.size16]; simp [hxl.out]) ?_)
      refine (Hof2.out w3).mono ?_
      rintro e w4 ⟨rfl, hg4⟩
      have HI4 := HI3.grows hg4
      obtain ⟨_, h5', h8', _, hY4, ⟨ex4, ey4, hE4⟩, _, hK4⟩ := HI4
      have cY0 : w4.cell? ⟨w.heap.size + 2, 0, none⟩ = some (.int .u64 (a).toNat) := hY4.cell 0
      have cY1 : w4.cell? ⟨w.heap.size + 2, 1, none⟩ = some (.int .u64 (b).toNat) := hY4.cell 1
      have cE0 : w4.cell? ⟨w.heap.size + 3, 0, none⟩ = some (.int .u64 ex4.toNat) := hE4.cell 0
      have cE1 : w4.cell? ⟨w.heap.size + 3, 1, none⟩ = some (.int .u64 ey4.toNat) := hE4.cell 1
      have fE0 := hE4.frozen 0
      have fE1 := hE4.frozen 1
      have cK0 : w4.cell? ⟨g8, 0, none⟩ = some (.int .u64 ka.toNat) := hK4.cell 0
      have cK1 : w4.cell? ⟨g8, 1, none⟩ = some (.int .u64 kb.toNat) := hK4.cell 1
      have HI5 := lib_hid ((HI3.grows hg4).e ea eb)
      clear HI3 hg4 hY4 hE4 hK4 HXf
      go_wp2_with fail
      refine (times_any ya yb ka kb _).mono ?_
      rintro e w6 ⟨rfl, hg6⟩
      rw [Hra.out, Hrb.out]
      have HI6 := HI5.out.grows hg6
      obtain ⟨_, _, _, _, hY6, _, _, _⟩ := HI6
      have HI7 := lib_hid ((HI5.out.grows hg6).y ra rb)
      have dY0 : w6.cell? ⟨w.heap.size + 2, 0, none⟩ = some (.int .u64 (a).toNat) := hY6.cell 0
      have dY1 : w6.cell? ⟨w.heap.size + 2, 1, none⟩ = some (.int .u64 (b).toNat) := hY6.cell 1
      have gY0 := hY6.frozen 0
      have gY1 := hY6.frozen 1
      clear cY0 cY1 cE0 cE1 fE0 fE1 cK0 cK1 hg6 hY6 HI5
      go_wp2_with fail
      go_step3
      refine ⟨rfl, ⟨_, _, _, bs'.drop m, ra, rb, g8, _, _, _, _, _, _, _, _, _, _, _, _, _, _, _, _, _, _, _, _, _, _, _, _, _, _, _, _, rfl, HI7.out, HSd, Hstep⟩, ?_⟩
      simp only [lenOf, Array.getD_eq_getD_getElem?, List.getElem?_toArray, List.getElem?_cons_succ, List.getElem?_cons_zero, Option.getD_some]
      omega

end Go.Proofs.Ythcmdjaccjghjaa
