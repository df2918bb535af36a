/-
  The walk of Order.
-/
import Derived.Test.YtnlffaglmcddkaaDoorLOrder
import Derived.Deep.Cut
namespace Go.Proofs.YtnlffaglmcddkaaDoor
open Go Go.RowKit
set_option linter.unusedSimpArgs false
set_option linter.unusedVariables false


theorem blkL_pos (l : List Int) (m : Nat) : 1 ≤ blkL l m := blkN_pos _
theorem blkL_le (l : List Int) (h5 : ∀ x ∈ l, -9223372036854775808 ≤ x ∧ x ≤ 5000) (m : Nat) : blkL l m ≤ 80 := by
  unfold blkL blkN
  rw [List.getD_eq_getElem?_getD]
  cases e : l[m]? with
  | none => simp
  | some x =>
    have := (h5 x (List.mem_of_getElem? e)).2
    simp only [Option.getD_some]
    omega
theorem sumB_le (B : Nat → Nat) (M : Nat) (h : ∀ m, B m ≤ M) : ∀ N, sumB B N ≤ N * M
  | 0 => by simp [sumB]
  | N + 1 => by rw [sumB, Nat.add_mul, Nat.one_mul]; have := sumB_le B M h N; have := h N; omega
theorem maxF_bound (B : Nat → Nat) (M : Nat) (h : ∀ m, B m ≤ M) (N : Nat) : maxF B N ≤ N * M + 4 * M := by
  have a := max_le B N M (fun m _ => h m)
  have b := sumB_le B M h N
  omega
theorem ord_start (H : Nat → Nat → V8) (B : Nat → Nat) (N g : Nat) (f : Value) (J : List Nat → (Nat → Prop) → World → Prop) (W : World) (L : List LaneV) (own : Nat → Prop)
    (hJ : J [] own W) (hB : BankB W g L 0 (N : Int) f) (hn : ∀ i x, i < 4 → L[i]? = some x → x.n = -1) : RunW H B N g f J 0 W :=
  ⟨⟨own, hJ⟩, L, hB, rfl, fun i x hx => by
    have hi : i < 4 := by have := (List.getElem?_eq_some_iff.1 hx).1; have := hB.1; omega
    have h0 : ((runS B N 0).1).getD i none = none := by
      rcases (show i = 0 ∨ i = 1 ∨ i = 2 ∨ i = 3 by omega) with rfl | rfl | rfl | rfl <;> rfl
    rw [h0]
    exact hn i x hi hx⟩
def natI (x : Nat) : Int := (x : Int)
set_option maxRecDepth 100000 in
set_option maxHeartbeats 4000000 in
theorem order_any (l : List Int) (A : Option Addr) (n c : Nat) (w : World) (hl : IR w A n c l) (hn : n ≤ 100) (h5 : ∀ x ∈ l, -9223372036854775808 ≤ x ∧ x ≤ 5000) :
    Calls Tryd.prog 15 #[.slice A n c] w fun e w' => ∃ C c', e = .returned (.slice C n c') ∧ Grows w w' ∧ IR w' C n c' ((ordF (blkL l) n (maxF (blkL l) n)).map fun (x : Nat) => (x : Int)) := by
  have HL := lib_hid hl
  have H5 := lib_hid h5
  have hnm : (n : Int) ≤ 100 := by omega
  have Hn := lib_hid hn
  obtain ⟨T, HT⟩ : ∃ T, Hid (maxF (blkL l) n = T) := ⟨_, lib_hid rfl⟩
  have hlen : (ordF (blkL l) n (maxF (blkL l) n)).length = n := ord_len _ (blkL_pos l) n
  rw [HT.out] at hlen ⊢
  obtain ⟨ws, Hws⟩ : ∃ ws, Hid (ordF (blkL l) n T = ws) := ⟨_, lib_hid rfl⟩
  rw [Hws.out] at hlen ⊢
  have Hlen := lib_hid hlen
  have hTb : T ≤ 1000000000 := by
    have := maxF_bound (blkL l) 80 (blkL_le l h5) n
    rw [HT.out] at this
    omega
  have HTb := lib_hid hTb
  obtain ⟨W0, HW0, hW0, hg0⟩ : ∃ W0 : World, Hid (W0 = (w.alloc (.cells #[.slice A n c] 27)).alloc (.cells #[.slice none 0 0] 27)) ∧ W0.heap.size = w.heap.size + 2 ∧ Grows w W0 := ⟨_, lib_hid rfl, by simp, ((Grows.refl w).alloc _).alloc _⟩
  have HB0 : Hid (Blk W0 w.heap.size 27 #[.slice A n c]) := by
    unfold Hid; rw [HW0.out]; have := (Blk.new w 27 #[.slice A n c]).alloc (.cells #[.slice none 0 0] 27); simpa using this
  have HB1 : Hid (Blk W0 (w.heap.size + 1) 27 #[.slice none 0 0]) := by
    unfold Hid; rw [HW0.out]; have := Blk.new (w.alloc (.cells #[.slice A n c] 27)) 27 #[.slice none 0 0]; simpa using this
  have q0 : W0.cell? ⟨w.heap.size, 0, none⟩ = some (.slice A n c) := HB0.out.cell 0
  have HN := lib_hid (none_any (n : Int) 32 #[.pointer (some ⟨w.heap.size, 0, none⟩)] W0)
  have Hg0 := lib_hid hg0
  have HS0 := lib_hid hW0
  clear hl hn h5 hlen hTb hg0 hW0
  go_enter Tryd.func15, Tryd.ntmps15
  go_upto_region 2 with fail
  rw [← HW0.out]
  go_wp2_with fail
  refine HN.out.mono ?_
  rintro e w1 ⟨g, rfl, hge, hglt, hg1, L, hb, hln⟩
  have HJ0 : Hid (OrdJ w A n c w.heap.size (w.heap.size + 1) g [] (fun b => b = w.heap.size + 1 ∨ blkOf none = some b) w1) := lib_hid ⟨Hg0.out.trans hg1, hglt, HB0.out.grows hg1, none, 0, HB1.out.grows hg1, OwnAt.nil _ _, fun e => (by cases e), rfl⟩
  have HR := lib_hid (run_any (fun _ _ => startV) (blkL l) n g 32 34 35 #[.pointer (some ⟨w.heap.size, 0, none⟩)] #[] #[.pointer (some ⟨w.heap.size + 1, 0, none⟩)] (OrdJ w A n c w.heap.size (w.heap.size + 1) g) w1
    (ord_J w l A n c g HL.out Hn.out H5.out (by have := HS0.out; omega)) (blkL_pos l) (fun m => by have := blkL_le l H5.out m; omega) (by have := Hn.out; omega) (by rw [HT.out]; exact HTb.out) (fun _ _ => rfl)
    (fun args W => by kernel_rfl) (fun args W => by kernel_rfl) (fun args W => by kernel_rfl) (ord_start _ _ _ _ _ _ _ L _ HJ0.out hb hln))
  rw [HT.out, Hws.out] at HR
  clear hge hglt hg1 hb hln HN q0 HJ0
  go_wp2_with fail
  refine HR.out.mono ?_
  rintro e w2 ⟨rfl, own, hG, hgW, hBl, C, c2, hBo, hO, hCg, _⟩
  rw [Hlen.out] at hBo hO
  have q1 : w2.cell? ⟨w.heap.size + 1, 0, none⟩ = some (.slice C n c2) := hBo.cell 0
  have HO := lib_hid hO.row
  have HG := lib_hid hG
  clear hG hgW hBl hBo hO hCg HR
  go_wp2
  go_ret
  exact ⟨C, c2, rfl, HG.out, HO.out⟩
end Go.Proofs.YtnlffaglmcddkaaDoor
