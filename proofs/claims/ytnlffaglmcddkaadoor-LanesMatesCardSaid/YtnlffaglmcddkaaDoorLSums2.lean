/-
  lanes.Sums: what holds while it runs.
-/
import Derived.Test.YtnlffaglmcddkaaDoorLSums1
import Derived.Test.YtnlffaglmcddkaaDoorLOrder2
import Derived.Deep.Cut
namespace Go.Proofs.YtnlffaglmcddkaaDoor
open Go Go.RowKit
set_option linter.unusedSimpArgs false
set_option linter.unusedVariables false


theorem Tryd.infoA32 : (Tryd.prog.info? 32).map (fun i => (i.zero, i.size, i.bytes)) = some (some (.agg #[.int .u8 0, .int .u8 0, .int .u8 0, .int .u8 0, .int .u8 0, .int .u8 0, .int .u8 0, .int .u8 0, .int .u8 0, .int .u8 0, .int .u8 0, .int .u8 0, .int .u8 0, .int .u8 0, .int .u8 0, .int .u8 0, .int .u8 0, .int .u8 0, .int .u8 0, .int .u8 0, .int .u8 0, .int .u8 0, .int .u8 0, .int .u8 0, .int .u8 0, .int .u8 0, .int .u8 0, .int .u8 0, .int .u8 0, .int .u8 0, .int .u8 0, .int .u8 0]), 32, 32) := by kernel_rfl
theorem Tryd.infoT : (Tryd.prog.info? 28).map (fun i => (i.zero, i.size, i.bytes)) = some (some (.slice none 0 0), 1, 24) := by kernel_rfl
def lensL (ls : List (List UInt8)) : List Int := ls.map fun b => (b.length : Int)
theorem blkL_lens (ls : List (List UInt8)) (k : Nat) : blkL (lensL ls) k = blkN (ls.getD k []).length := by
  unfold blkL lensL
  rw [List.getD_eq_getElem?_getD, List.getElem?_map, List.getD_eq_getElem?_getD]
  cases ls[k]? with
  | none => rfl
  | some b => simp
theorem lens_le (ls : List (List UInt8)) (h : ∀ b ∈ ls, b.length ≤ 400) : ∀ x ∈ lensL ls, -9223372036854775808 ≤ x ∧ x ≤ 5000 := by
  intro x hx
  obtain ⟨b, hb, rfl⟩ := List.mem_map.1 hx
  have := h b hb
  omega
/-- A message, padded. -/
def padB (b : List UInt8) : List UInt8 := b ++ padS b.length
theorem padB_len (b : List UInt8) : (padB b).length = 64 * blkN b.length := by
  unfold padB
  rw [List.length_append, padS_len]
  unfold padZ blkN
  omega
attribute [local irreducible] startV blockF
theorem stF_run (ks : List UInt32) (t : List UInt8) (k : Nat) (ht : t.length = 64 * k) : ∀ d j, j + d = k → runF ks (stF ks t j) (t.drop (64 * j)) = (stF ks t k, [])
  | 0, j, h => by
    obtain rfl : j = k := by omega
    rw [List.drop_of_length_le (by omega), runF_end _ _ _ (by simp)]
  | d + 1, j, h => by
    rw [runF_step _ _ _ (by rw [List.length_drop]; omega), List.drop_drop]
    have e := stF_run ks t k ht d (j + 1) (by omega)
    rw [show 64 * (j + 1) = 64 * j + 64 by omega] at e
    exact e
theorem stF_sum (ks : List UInt32) (b : List UInt8) : outF (stF ks (padB b) (blkN b.length)) = sumS ks b := by
  unfold sumS
  have := stF_run ks (padB b) (blkN b.length) (padB_len b) (blkN b.length) 0 (by omega)
  rw [Nat.mul_zero, List.drop_zero] at this
  have e : stF ks (padB b) 0 = startV := rfl
  rw [e] at this
  have e2 : b ++ padS b.length = padB b := rfl
  rw [e2, this]
/-- The state of message m with l blocks left. -/
def laneH (ks : List UInt32) (ls : List (List UInt8)) (m l : Nat) : V8 := stF ks (padB (ls.getD m [])) (blkL (lensL ls) m - l)
theorem laneH_full (ks : List UInt32) (ls : List (List UInt8)) (m : Nat) : laneH ks ls m (blkL (lensL ls) m) = startV := by
  unfold laneH
  rw [Nat.sub_self]
  rfl
theorem laneH_done (ks : List UInt32) (ls : List (List UInt8)) (m : Nat) : outF (laneH ks ls m 0) = sumS ks (ls.getD m []) := by
  unfold laneH
  rw [Nat.sub_zero, blkL_lens, stF_sum]
theorem laneH_step (ks : List UInt32) (ls : List (List UInt8)) (m l : Nat) (h1 : 1 ≤ l) (h2 : l ≤ blkL (lensL ls) m) : laneH ks ls m (l - 1) = blockF ks (laneH ks ls m l) (((padB (ls.getD m [])).drop (64 * (blkL (lensL ls) m - l))).take 64) := by
  unfold laneH
  rw [show blkL (lensL ls) m - (l - 1) = (blkL (lensL ls) m - l) + 1 by omega]
  rfl
/-- What holds while Sums runs. -/
def SumJ (ks : List UInt32) (ls : List (List UInt8)) (Wp : World) (N go bo g : Nat) (ws : List Nat) (own : Nat → Prop) (W : World) : Prop :=
  Keeps (fun b => b = go ∨ Wp.heap.size ≤ b) Wp W ∧ g < W.heap.size ∧ Blk W bo 24 #[.slice (some ⟨go, 0, none⟩) N N] ∧ (own = fun b => b = go) ∧
    ∃ os : List (List UInt8), Blk W go 32 ((flatB os).map b8).toArray ∧ os.length = N ∧ (∀ o ∈ os, o.length = 32) ∧ ∀ m ∈ ws, os[m]? = some (sumS ks (ls.getD m []))
theorem sum_J {tK : TypeId} (ks : List UInt32) (hkl : ks.length = 64) (ls : List (List UInt8)) (Wp : World) (N cp go bo bp base g : Nat) (P : Option Addr) (hlen : ls.length = N) (hN : N ≤ 100) (hl4 : ∀ b ∈ ls, b.length ≤ 400)
    (HK : Hid (Blk Wp 0 tK (ks.map b32).toArray)) (hBp : Blk Wp bp 22 #[.slice P N cp]) (hr : RowsO base Wp P N cp (ls.map padB)) (h0 : 0 < go) (hgb : go < bo) (hgp : go < bp) (hbase : bo < base) (hbp : bp < base) (hbW : base ≤ Wp.heap.size) (hg : Wp.heap.size ≤ g) :
    RunJ (laneH ks ls) (blkL (lensL ls)) N g 20 22 24 #[.pointer (some ⟨bp, 0, none⟩)] #[.pointer (some ⟨bp, 0, none⟩)] #[.pointer (some ⟨bo, 0, none⟩)] (SumJ ks ls Wp N go bo g) := by
  have hrW : ∀ W, Keeps (fun b => b = go ∨ Wp.heap.size ≤ b) Wp W → RowsO base W P N cp (ls.map padB) ∧ Blk W bp 22 #[.slice P N cp] ∧ Blk W 0 tK (ks.map b32).toArray := fun W hk =>
    ⟨hr.keeps hk (fun b hb hlt h => by omega), hBp.keeps hk (fun h => by have := hBp.lt; omega), HK.out.keeps hk (fun h => by have := HK.out.lt; omega)⟩
  have hat : ∀ m, m < N → (ls.map padB)[m]? = some (padB (ls.getD m [])) := fun m hm => by
    rw [List.getElem?_map, List.getD_eq_getElem?_getD, List.getElem?_eq_getElem (by omega)]
    rfl
  have h5 := lens_le ls hl4
  constructor
  · rintro ws own W ⟨hk, hgW, hBo, rfl, _⟩
    refine ⟨fun b hb => ?_, fun h => ?_⟩
    · subst hb
      have := hBo.lt
      omega
    · have := h; omega
  · rintro ws own W W' ⟨hk, hgW, hBo, rfl, os, h1, h2, h3, h4⟩ hk2
    exact ⟨hk.trans hk2 (fun i hi hlt => by omega), Nat.lt_of_lt_of_le hgW hk2.size, hBo.keeps hk2 (by omega), rfl, os, h1.keeps hk2 (by omega), h2, h3, h4⟩
  · rintro ws own W n ⟨hk, hgW, hBo, rfl, _⟩ hn
    obtain ⟨a, b, _⟩ := hrW W hk
    exact sumSize_any base bp N cp n _ P (ls.map padB) (padB (ls.getD n [])) W b a (hat n hn) (by rw [padB_len, blkL_lens]) (by have := blkL_le (lensL ls) h5 n; omega)
  · rintro ws own W k ⟨hk, hgW, hBo, rfl, _⟩ i n l L W2 hi hn h1 h2 hk2 hb hx
    obtain ⟨a, b, c⟩ := hrW W2 (hk.trans hk2 (fun i hi hlt => by omega))
    have hB := blkL_le (lensL ls) h5 n
    refine (sumBlock_any ks hkl base bp N cp g i n l (64 * (blkL (lensL ls) n - l)) P (ls.map padB) (padB (ls.getD n [])) L _ k (N : Int) _ W2 (lib_hid c) b a (hat n hn) hb hx rfl rfl h1 (by rw [padB_len, ← blkL_lens]; omega) (by omega) (by omega)).mono ?_
    rintro e W' ⟨rfl, q1, q2⟩
    rw [laneH_step ks ls n l h1 h2]
    exact ⟨rfl, q1, q2⟩
  · rintro ws own W m b ⟨hk, hgW, hBo, rfl, os, h1, h2, h3, h4⟩ hm hws hb hbl
    refine (sumDone_any b bo go N m (laneH ks ls m 0) 0 os W hBo hbl h1 h3 h2 hm (by omega)).mono ?_
    rintro e W' ⟨rfl, q1, q2⟩
    rw [laneH_done] at q2
    refine ⟨rfl, q1, fun b => b = go, ⟨hk.trans q1 (fun i hi _ => Or.inl hi), Nat.lt_of_lt_of_le hgW q1.size, hBo.keeps q1 (by omega), rfl, os.set m (sumS ks (ls.getD m [])), q2, by rw [List.length_set]; exact h2, fun o ho => ?_, fun j hj => ?_⟩, fun b hb => .inl hb⟩
    · rcases List.mem_or_eq_of_mem_set ho with h | h
      · exact h3 o h
      · rw [h]; exact sumS_len _ _
    · rw [List.getElem?_set]
      by_cases e : m = j
      · subst e; rw [if_pos rfl, if_pos (by omega)]
      · rw [if_neg e]
        rw [List.mem_append, List.mem_singleton] at hj
        rcases hj with hj | hj
        · exact h4 j hj
        · exact absurd hj.symm e
end Go.Proofs.YtnlffaglmcddkaaDoor
