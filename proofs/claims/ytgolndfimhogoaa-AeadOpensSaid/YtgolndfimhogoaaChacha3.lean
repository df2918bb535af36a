/-
  The walk of chacha.Block.
-/
import Derived.Test.YtgolndfimhogoaaChacha2
import Derived.Test.YtgolndfimhogoaaBits2
import Derived.Test.YtgolndfimhogoaaMonoJ
import Derived.Deep.Cut
namespace Go.Proofs.Ytgolndfimhogoaa
open Go Go.RowKit
set_option linter.unusedSimpArgs false


/-- A quarter round of a state: the i-th of four, columns or diagonals. -/
def qAt (sk i : Nat) (s : List UInt32) : List UInt32 :=
  let q := quarterF ⟨s.getD i 0, s.getD (4 + (i + sk) % 4) 0, s.getD (8 + (i + 2 * sk) % 4) 0, s.getD (12 + (i + 3 * sk) % 4) 0⟩
  (((s.set i q.a).set (4 + (i + sk) % 4) q.b).set (8 + (i + 2 * sk) % 4) q.c).set (12 + (i + 3 * sk) % 4) q.d
def inN (sk : Nat) : Nat → List UInt32 → List UInt32
  | 0, s => s
  | i + 1, s => qAt sk i (inN sk i s)
def midN : Nat → List UInt32 → List UInt32
  | 0, s => s
  | k + 1, s => inN k 4 (midN k s)
def outN : Nat → List UInt32 → List UInt32
  | 0, s => s
  | t + 1, s => midN 2 (outN t s)
theorem qAt_len (sk i : Nat) (s : List UInt32) : (qAt sk i s).length = s.length := by simp [qAt]
theorem inN_len (sk i : Nat) (s : List UInt32) : (inN sk i s).length = s.length := by
  induction i with
  | zero => rfl
  | succ i ih => rw [inN, qAt_len, ih]
theorem midN_len (k : Nat) (s : List UInt32) : (midN k s).length = s.length := by
  induction k with
  | zero => rfl
  | succ k ih => rw [midN, inN_len, ih]
theorem outN_len (k : Nat) (s : List UInt32) : (outN k s).length = s.length := by
  induction k with
  | zero => rfl
  | succ k ih => rw [outN, midN_len, ih]
/-- The bytes of a block, k words of it. -/
def wordsN (s was : List UInt32) : Nat → List UInt8
  | 0 => List.replicate 64 0
  | k + 1 => splice (wordsN s was k) (4 * k) (putLittleF (s.getD k 0 + was.getD k 0).toUInt64 4)
theorem wordsN_len (s was : List UInt32) (k : Nat) (hk : k ≤ 16) : (wordsN s was k).length = 64 := by
  induction k with
  | zero => rfl
  | succ k ih => rw [wordsN]; simp [splice, ih (by omega), putLittleF]; omega
def blockC (key nonce : List UInt8) (n : UInt32) : List UInt8 := wordsN (outN 10 (firstF key nonce n)) (firstF key nonce n) 16
theorem blockC_len (key nonce : List UInt8) (n : UInt32) : (blockC key nonce n).length = 64 := wordsN_len _ _ _ (by omega)
theorem cell32 {w : World} {g : Nat} {t : TypeId} {s : List UInt32} (h : Blk w g t (s.map b32).toArray) (i : Nat) (hi : i < s.length) : w.cell? ⟨g, i, none⟩ = some (b32 (s.getD i 0)) := by
  rw [h.cell, List.getElem?_toArray, List.getElem?_map, List.getElem?_eq_getElem hi]
  simp [List.getD, List.getElem?_eq_getElem hi]
theorem Try.size32 : (Try.prog.info? 37).map (·.size) = some 32 := by kernel_rfl
theorem Try.size12 : (Try.prog.info? 38).map (·.size) = some 12 := by kernel_rfl
theorem Try.size64 : (Try.prog.info? 48).map (·.size) = some 64 := by kernel_rfl

def set4 (s : List UInt32) (j rb rc rd : Nat) (q1 q2 q3 q4 : UInt32) : Nat → List UInt32
  | 0 => s
  | 1 => s.set j q1
  | 2 => (s.set j q1).set (4 + rb) q2
  | 3 => ((s.set j q1).set (4 + rb) q2).set (8 + rc) q3
  | _ => (((s.set j q1).set (4 + rb) q2).set (8 + rc) q3).set (12 + rd) q4
theorem set4_zero (s : List UInt32) (j rb rc rd : Nat) (q1 q2 q3 q4 : UInt32) : set4 s j rb rc rd q1 q2 q3 q4 0 = s := rfl
theorem set4_all (s : List UInt32) (j rb rc rd : Nat) (q1 q2 q3 q4 : UInt32) (m : Nat) (h : 4 ≤ m) : set4 s j rb rc rd q1 q2 q3 q4 m = (((s.set j q1).set (4 + rb) q2).set (8 + rc) q3).set (12 + rd) q4 := by
  obtain ⟨k, rfl⟩ : ∃ k, m = k + 4 := ⟨m - 4, by omega⟩
  rfl
theorem set4_len (s : List UInt32) (j rb rc rd : Nat) (q1 q2 q3 q4 : UInt32) (m : Nat) : (set4 s j rb rc rd q1 q2 q3 q4 m).length = s.length := by
  unfold set4; split <;> simp
/-- What stands in memory while a block is made. -/
def BInv (w wr : World) (g7 g8 : Nat) (was s : List UInt32) : Prop :=
  Grows w wr ∧ g8 < wr.heap.size ∧ Blk wr g7 61 (was.map b32).toArray ∧ Blk wr g8 61 (s.map b32).toArray ∧ Blk wr (w.heap.size + 2) 48 ((List.replicate 64 (0 : UInt8)).map b8).toArray
theorem BInv.grows {w wr wm : World} {g7 g8 : Nat} {was s : List UInt32} (h : BInv w wr g7 g8 was s) (g : Grows wr wm) : BInv w wm g7 g8 was s :=
  ⟨h.1.trans g, Nat.lt_of_lt_of_le h.2.1 g.le, h.2.2.1.grows g, h.2.2.2.1.grows g, h.2.2.2.2.grows g⟩
theorem BInv.set {w wr : World} {g7 g8 : Nat} {was s : List UInt32} (h : BInv w wr g7 g8 was s) (h7 : w.heap.size + 3 ≤ g7) (h78 : g7 < g8) (i : Nat) (u : UInt32) : BInv w (wr.setCell ⟨g8, i, none⟩ (b32 u)) g7 g8 was (s.set i u) :=
  ⟨h.1.setCell (p := ⟨g8, i, none⟩) (show w.heap.size ≤ g8 by omega) _, by simp [World.setCell]; exact h.2.1, h.2.2.1.far (show g7 ≠ g8 by omega) _, blk_set32 h.2.2.2.1 i u, h.2.2.2.2.far (show w.heap.size + 2 ≠ g8 by omega) _⟩

theorem BInv.below {w wr wm : World} {g7 g8 g15 : Nat} {was s : List UInt32} (h : BInv w wr g7 g8 was s) (h7 : w.heap.size + 3 ≤ g7) (h78 : g7 < g8) (h8 : g8 < g15) (g : Below g15 wr wm) : BInv w wm g7 g8 was s :=
  ⟨Below.trans h.1 (g.mono (by omega)), Nat.lt_of_lt_of_le h.2.1 g.size, h.2.2.1.below g (by omega), h.2.2.2.1.below g (by omega), h.2.2.2.2.below g (by omega)⟩

set_option maxRecDepth 100000 in
set_option maxHeartbeats 4000000 in
theorem blockc_gen (key nonce : List UInt8) (n : UInt32) (hk : key.length = 32) (hn : nonce.length = 12) (w : World) (bc : List UInt8) (bcl : Hid (bc.length = 64))
   (Hbc : Hid (∀ was T N fin, firstF key nonce n = was → T = 10 → N = 16 → outN T was = fin → bc = wordsN fin was N)) :
    Calls Try.prog 24 #[.agg (key.map b8).toArray, .agg (nonce.map b8).toArray, b32 n] w fun e w' => e = .returned (.agg (bc.map b8).toArray) ∧ Grows w w' := by
  obtain ⟨W0, HW0, hW0, hg0⟩ : ∃ W0 : World, Hid (W0 = ((w.alloc (.cells (key.map b8).toArray 37)).alloc (.cells (nonce.map b8).toArray 38)).alloc (.cells ((List.replicate 64 (0 : UInt8)).map b8).toArray 48)) ∧ W0.heap.size = w.heap.size + 3 ∧ Grows w W0 := ⟨_, lib_hid rfl, by simp, (((Grows.refl w).alloc _).alloc _).alloc _⟩
  have HB0 : Hid (Blk W0 w.heap.size 37 (key.map b8).toArray) := by
    unfold Hid; rw [HW0.out]; have := ((Blk.new (w) 37 (key.map b8).toArray).alloc (.cells (nonce.map b8).toArray 38)).alloc (.cells ((List.replicate 64 (0 : UInt8)).map b8).toArray 48); simpa using this
  have HB1 : Hid (Blk W0 (w.heap.size + 1) 38 (nonce.map b8).toArray) := by
    unfold Hid; rw [HW0.out]; have := (Blk.new (w.alloc (.cells (key.map b8).toArray 37)) 38 (nonce.map b8).toArray).alloc (.cells ((List.replicate 64 (0 : UInt8)).map b8).toArray 48); simpa using this
  have HB2 : Hid (Blk W0 (w.heap.size + 2) 48 ((List.replicate 64 (0 : UInt8)).map b8).toArray) := by
    unfold Hid; rw [HW0.out]; have := Blk.new ((w.alloc (.cells (key.map b8).toArray 37)).alloc (.cells (nonce.map b8).toArray 38)) 48 ((List.replicate 64 (0 : UInt8)).map b8).toArray; simpa using this
  obtain ⟨was, Hwas, wasl⟩ : ∃ s : List UInt32, Hid (firstF key nonce n = s) ∧ Hid (s.length = 16) := ⟨_, lib_hid rfl, lib_hid (firstF_len _ _ _)⟩
  have Hz64 : Hid ((((Value.int .u8 0 :: Value.int .u8 0 :: Value.int .u8 0 :: Value.int .u8 0 :: Value.int .u8 0 :: Value.int .u8 0 :: Value.int .u8 0 :: Value.int .u8 0 :: Value.int .u8 0 :: Value.int .u8 0 :: Value.int .u8 0 :: Value.int .u8 0 :: Value.int .u8 0 :: Value.int .u8 0 :: Value.int .u8 0 :: Value.int .u8 0 :: Value.int .u8 0 :: Value.int .u8 0 :: Value.int .u8 0 :: Value.int .u8 0 :: Value.int .u8 0 :: Value.int .u8 0 :: Value.int .u8 0 :: Value.int .u8 0 :: Value.int .u8 0 :: Value.int .u8 0 :: Value.int .u8 0 :: Value.int .u8 0 :: Value.int .u8 0 :: Value.int .u8 0 :: Value.int .u8 0 :: Value.int .u8 0 :: Value.int .u8 0 :: Value.int .u8 0 :: Value.int .u8 0 :: Value.int .u8 0 :: Value.int .u8 0 :: Value.int .u8 0 :: Value.int .u8 0 :: Value.int .u8 0 :: Value.int .u8 0 :: Value.int .u8 0 :: Value.int .u8 0 :: Value.int .u8 0 :: Value.int .u8 0 :: Value.int .u8 0 :: Value.int .u8 0 :: Value.int .u8 0 :: Value.int .u8 0 :: Value.int .u8 0 :: Value.int .u8 0 :: Value.int .u8 0 :: Value.int .u8 0 :: Value.int .u8 0 :: Value.int .u8 0 :: Value.int .u8 0 :: Value.int .u8 0 :: Value.int .u8 0 :: Value.int .u8 0 :: Value.int .u8 0 :: Value.int .u8 0 :: Value.int .u8 0 :: Value.int .u8 0 :: Value.int .u8 0 :: [] : List Value).toArray) : Array Value) = ((List.replicate 64 (0 : UInt8)).map b8).toArray) := lib_hid rfl
  have hres : ((was.map b32).toArray).size = 16 := by simp [wasl.out]
  have keyl := lib_hid hk
  have noncel := lib_hid hn
  have HW0' := HW0.out
  obtain ⟨res, Hres, hrl, hra⟩ : ∃ res : Array Value, Hid ((was.map b32).toArray = res) ∧ res.size = 16 ∧ res.all (·.oneCell') = true := ⟨_, lib_hid rfl, hres, cells32 _⟩
  have Hfi : Hid (∀ W, Calls Try.prog 35 #[.agg (key.map b8).toArray, .agg (nonce.map b8).toArray, b32 n] W fun e w' => e = .returned (.agg res) ∧ Grows W w') := by
    have := first_any key nonce n hk hn
    rw [Hwas.out, Hres.out] at this
    exact this
  clear hk hn hres
  go_enter Try.func24, Try.ntmps24
  go_upto_region 1 with fail
  rw [Hz64.out, ← HW0']
  clear HW0'
  go_wp2_with (first
    | (refine wpList_load_blk rfl _ _ rfl w.heap.size rfl 37 (key.map b8).toArray _ HB0.out Try.underlying37 rfl (by rw [Try.size32]; simp [keyl.out]) ?_)
    | (refine wpList_load_blk rfl _ _ rfl (w.heap.size + 1) rfl 38 (nonce.map b8).toArray _ HB1.out Try.underlying38 rfl (by rw [Try.size12]; simp [noncel.out]) ?_))
  refine (Hfi.out W0).mono ?_
  rintro e w1 ⟨rfl, hg1⟩
  obtain ⟨g7, Hg7, hz7⟩ : ∃ g, Hid (w1.heap.size = g) ∧ w.heap.size + 3 ≤ g := ⟨_, lib_hid rfl, by have := hg1.le; omega⟩
  go_wp2_with (first
    | (refine wpList_store_blk rfl _ _ _ rfl w1.heap.size res rfl rfl 61 _ (Blk.new _ _ _) (by rw [Try.size16w, hrl]) (by simp [hrl]) hra w1.heap.size w1 ((Grows.refl w1).alloc _) (Nat.le_refl _) ?_; intro w2 H7 hb2 hg2)
    | (refine wpList_load_blk rfl _ _ rfl w1.heap.size rfl 61 res _ H7 Try.underlying61 rfl (by rw [Try.size16w, hrl]) ?_)
    | (refine wpList_store_blk rfl _ _ _ rfl w2.heap.size res rfl rfl 61 _ (Blk.new _ _ _) (by rw [Try.size16w, hrl]) (by simp [hrl]) hra w2.heap.size w2 ((Grows.refl w2).alloc _) (Nat.le_refl _) ?_; intro w3 H8 hb3 hg3))
  obtain ⟨g8, Hg8, h78⟩ : ∃ g, Hid (w2.heap.size = g) ∧ g7 < g := ⟨_, lib_hid rfl, by have := H7.lt; rw [Hg7.out] at this; exact this⟩
  have hI : BInv w w3 g7 g8 was was := by
    refine ⟨((hg0.trans hg1).trans hb2).trans hb3, ?_, ?_, ?_, ?_⟩
    · rw [← Hg8.out]; exact H8.lt
    · rw [← Hg7.out, Hres.out]; exact H7.below hb3 H7.lt
    · rw [← Hg8.out, Hres.out]; exact H8
    · exact HB2.out.grows ((hg1.trans hb2).trans hb3)
  rw [Hg7.out, Hg8.out]
  clear H7 H8 hb2 hg2 hb3 hg3 hg1 HB0 HB1 HB2 hW0 Hfi hg0
  go_loopw [9, 10, 11, 12, 13, 14, 22] (fun _ _ _ _ _ _ i wr => ∃ t : Nat, t ≤ 10 ∧ i = .int .i64 t ∧ BInv w wr g7 g8 was (outN t was)) (fun _ _ _ _ _ _ i _ => 10 - (intOf i).toNat)
  case atStart => exact ⟨0, by omega, rfl, hI⟩
  case round =>
    obtain ⟨wo, rfl⟩ : ∃ wo : World, wo = wr := ⟨_, rfl⟩
    obtain ⟨t, ht, rfl, hI⟩ := hrel
    by_cases hlt : t < 10
    · obtain ⟨s1, Hs1⟩ : ∃ s, Hid (outN t was = s) := ⟨_, lib_hid rfl⟩
      rw [Hs1.out] at hI
      go_wp2_with fail
      go_loopw [9, 10, 11, 12, 13, 14, 24] (fun _ _ _ _ _ _ i wr => ∃ k : Nat, k ≤ 2 ∧ i = .int .i64 k ∧ BInv w wr g7 g8 was (midN k s1)) (fun _ _ _ _ _ _ i _ => 2 - (intOf i).toNat)
      case atStart => exact ⟨0, by omega, rfl, hI⟩
      case round =>
        obtain ⟨wq, rfl⟩ : ∃ wq : World, wq = wr := ⟨_, rfl⟩
        obtain ⟨k, hk, rfl, hI2⟩ := hrel
        by_cases hkl : k < 2
        · obtain ⟨s2, Hs2⟩ : ∃ s, Hid (midN k s1 = s) := ⟨_, lib_hid rfl⟩
          have s2l : Hid (s2.length = 16) := by unfold Hid; rw [← Hs2.out, midN_len, ← Hs1.out, outN_len]; exact wasl.out
          rw [Hs2.out] at hI2
          go_wp2_with fail
          go_loopw [10, 11, 12, 13, 14, 27] (fun _ _ _ _ _ i wr => ∃ j : Nat, j ≤ 4 ∧ i = .int .i64 j ∧ BInv w wr g7 g8 was (inN k j s2)) (fun _ _ _ _ _ i _ => 4 - (intOf i).toNat)
          case atStart => exact ⟨0, by omega, rfl, hI2⟩
          case round =>
            obtain ⟨j, hj, rfl, hI3⟩ := hrel
            by_cases hjl : j < 4
            · obtain ⟨s3, Hs3, s3l⟩ : ∃ s, Hid (inN k j s2 = s) ∧ Hid (s.length = 16) := ⟨_, lib_hid rfl, by unfold Hid; rw [inN_len]; exact s2l.out⟩
              rw [Hs3.out] at hI3
              obtain ⟨rb, hb, Hb, hb4⟩ : ∃ r : Nat, ((j : Int) + k).tmod 4 = (r : Int) ∧ Hid ((j + k) % 4 = r) ∧ r < 4 := ⟨(j + k) % 4, by rw [Int.tmod_eq_emod_of_nonneg (by omega)]; omega, lib_hid rfl, Nat.mod_lt _ (by omega)⟩
              obtain ⟨rc, hc, Hc, hc4⟩ : ∃ r : Nat, ((j : Int) + 2 * k).tmod 4 = (r : Int) ∧ Hid ((j + 2 * k) % 4 = r) ∧ r < 4 := ⟨(j + 2 * k) % 4, by rw [Int.tmod_eq_emod_of_nonneg (by omega)]; omega, lib_hid rfl, Nat.mod_lt _ (by omega)⟩
              obtain ⟨rd, hd, Hd, hd4⟩ : ∃ r : Nat, ((j : Int) + 3 * k).tmod 4 = (r : Int) ∧ Hid ((j + 3 * k) % 4 = r) ∧ r < 4 := ⟨(j + 3 * k) % 4, by rw [Int.tmod_eq_emod_of_nonneg (by omega)]; omega, lib_hid rfl, Nat.mod_lt _ (by omega)⟩
              obtain ⟨xa, Hxa⟩ : ∃ x, Hid (s3.getD j 0 = x) := ⟨_, lib_hid rfl⟩
              obtain ⟨xb, Hxb⟩ : ∃ x, Hid (s3.getD (4 + rb) 0 = x) := ⟨_, lib_hid rfl⟩
              obtain ⟨xc, Hxc⟩ : ∃ x, Hid (s3.getD (8 + rc) 0 = x) := ⟨_, lib_hid rfl⟩
              obtain ⟨xd, Hxd⟩ : ∃ x, Hid (s3.getD (12 + rd) 0 = x) := ⟨_, lib_hid rfl⟩
              obtain ⟨q1, q2, q3, q4, Hq⟩ : ∃ q1 q2 q3 q4, Hid (quarterF ⟨xa, xb, xc, xd⟩ = ⟨q1, q2, q3, q4⟩) := ⟨_, _, _, _, lib_hid rfl⟩
              have Hstep : Hid (inN k (j + 1) s2 = (((s3.set j q1).set (4 + rb) q2).set (8 + rc) q3).set (12 + rd) q4) := by
                unfold Hid
                rw [inN, Hs3.out]
                unfold qAt
                rw [Hb.out, Hc.out, Hd.out, Hxa.out, Hxb.out, Hxc.out, Hxd.out, Hq.out]
              have hI3d : BInv w wr.drew g7 g8 was (set4 s3 j rb rc rd q1 q2 q3 q4 0) := hI3.grows ((Grows.refl wr).drew)
              go_upto_region 12 with fail
              apply wp_region_monoJ (fun _ _ => True) (fun _ => trivial) (ChainJ [23, 25, 27, 29] (fun m W => BInv w W g7 g8 was (set4 s3 j rb rc rd q1 q2 q3 q4 m))) #[0, 0, 0, 0, 0, 16, 48, 0, 128, 384, 0, 1024, 3072, 0, 8192, 24576, 65520, 131056, 262128, 262128, 262128, 262128, 524273, 4718577, 13631475, 30408691, 65011703, 132120567, 268435455, 536870911] 30 ((.is _, []) :: (.is _, []) :: (.is _, []) :: (.is _, []) :: (.is _, []) :: (.is _, []) :: (.is _, []) :: (.is _, []) :: (.is _, []) :: (.is _, []) :: (.is _, []) :: (.is _, []) :: (.is _, []) :: (.is _, []) :: (.is _, []) :: (.is _, []) :: (.is (.tuple #[b32 q1, b32 q2, b32 q3, b32 q4]), []) :: (.is _, []) :: (.is _, []) :: (.is _, []) :: (.is _, []) :: (.is _, []) :: (.is _, []) :: (.is undef, []) :: (.is _, []) :: (.is undef, []) :: (.is _, []) :: (.is undef, []) :: (.is _, []) :: (.is undef, []) :: []) (by kernel_rfl) (chain_start (hI3d)) (by kernel_rfl)
              apply MonoJ.is0
              · kernel_rfl
              · intro L W hLk hsh hah hJ
                have hJ2 := lib_hid (chain_pure (k := 0) (w' := W) (by decide) (fun _ h => h) hJ)
                clear hJ hsh hah
                go_wp2
                refine ⟨rfl, rfl, ⟨trivial, hJ2.out⟩, ?_⟩
                unfold Oper.valAt
                go_simp
                rfl
              intro k1 a1 hk1 ha1
              simp only [Nat.reduceAdd] at hk1
              simp only [Act.put, List.setIfInBounds_toArray, List.set_cons_succ, List.set_cons_zero] at ha1
              subst hk1 ha1
              apply MonoJ.is0
              · kernel_rfl
              · intro L W hLk hsh hah hJ
                have hJ2 := lib_hid (chain_pure (k := 1) (w' := W) (by decide) (fun _ h => h) hJ)
                clear hJ hsh hah
                go_wp2
                refine ⟨rfl, rfl, ⟨trivial, hJ2.out⟩, ?_⟩
                unfold Oper.valAt
                go_simp
                rfl
              intro k1 a1 hk1 ha1
              simp only [Nat.reduceAdd] at hk1
              simp only [Act.put, List.setIfInBounds_toArray, List.set_cons_succ, List.set_cons_zero] at ha1
              subst hk1 ha1
              apply MonoJ.is0
              · kernel_rfl
              · intro L W hLk hsh hah hJ
                have hJ2 := lib_hid (chain_pure (k := 2) (w' := W) (by decide) (fun _ h => h) hJ)
                clear hJ hsh hah
                go_wp2
                refine ⟨rfl, rfl, ⟨trivial, hJ2.out⟩, ?_⟩
                unfold Oper.valAt
                go_simp
                rfl
              intro k1 a1 hk1 ha1
              simp only [Nat.reduceAdd] at hk1
              simp only [Act.put, List.setIfInBounds_toArray, List.set_cons_succ, List.set_cons_zero] at ha1
              subst hk1 ha1
              apply MonoJ.is0
              · kernel_rfl
              · intro L W hLk hsh hah hJ
                have hJ2 := lib_hid (chain_pure (k := 3) (w' := W) (by decide) (fun _ h => h) hJ)
                clear hJ hsh hah
                go_wp2
                refine ⟨rfl, rfl, ⟨trivial, hJ2.out⟩, ?_⟩
                unfold Oper.valAt
                go_simp
                rfl
              intro k1 a1 hk1 ha1
              simp only [Nat.reduceAdd] at hk1
              simp only [Act.put, List.setIfInBounds_toArray, List.set_cons_succ, List.set_cons_zero] at ha1
              subst hk1 ha1
              apply MonoJ.is0
              · kernel_rfl
              · intro L W hLk hsh hah hJ
                have hJ2 := lib_hid (chain_pure (k := 4) (w' := W) (by decide) (fun _ h => h) hJ)
                clear hJ hsh hah
                go_wp2
                refine ⟨rfl, rfl, ⟨trivial, hJ2.out⟩, ?_⟩
                unfold Oper.valAt
                go_simp
                rfl
              intro k1 a1 hk1 ha1
              simp only [Nat.reduceAdd] at hk1
              simp only [Act.put, List.setIfInBounds_toArray, List.set_cons_succ, List.set_cons_zero] at ha1
              subst hk1 ha1
              apply MonoJ.is0
              · kernel_rfl
              · intro L W hLk hsh hah hJ
                have hJ2 := lib_hid (chain_pure (k := 5) (w' := W) (by decide) (fun _ h => h) hJ)
                clear hJ hsh hah
                go_wp2
                refine ⟨rfl, rfl, ⟨trivial, hJ2.out⟩, ?_⟩
                unfold Oper.valAt
                go_simp
                rfl
              intro k1 a1 hk1 ha1
              simp only [Nat.reduceAdd] at hk1
              simp only [Act.put, List.setIfInBounds_toArray, List.set_cons_succ, List.set_cons_zero] at ha1
              subst hk1 ha1
              apply MonoJ.is0
              · kernel_rfl
              · intro L W hLk hsh hah hJ
                have hI := chain_none rfl (shut_off hsh (i := 6) (k := 23) (by omega) (by omega) hLk (by kernel_rfl)) hJ
                have hcc := cell32 hI.2.2.2.1 (j) (by rw [set4_len, s3l.out]; omega)
                rw [set4_zero, Hxa.out] at hcc
                clear hI
                have hJ2 := lib_hid (chain_pure (k := 6) (w' := W) (by decide) (fun _ h => h) hJ)
                clear hJ hsh hah
                go_wp2
                refine ⟨rfl, rfl, ⟨trivial, hJ2.out⟩, ?_⟩
                unfold Oper.valAt
                go_simp
                rfl
              intro k1 a1 hk1 ha1
              simp only [Nat.reduceAdd] at hk1
              simp only [Act.put, List.setIfInBounds_toArray, List.set_cons_succ, List.set_cons_zero] at ha1
              subst hk1 ha1
              apply MonoJ.is0
              · kernel_rfl
              · intro L W hLk hsh hah hJ
                have hJ2 := lib_hid (chain_pure (k := 7) (w' := W) (by decide) (fun _ h => h) hJ)
                clear hJ hsh hah
                go_wp2
                refine ⟨rfl, rfl, ⟨trivial, hJ2.out⟩, ?_⟩
                unfold Oper.valAt
                go_simp
                rfl
              intro k1 a1 hk1 ha1
              simp only [Nat.reduceAdd] at hk1
              simp only [Act.put, List.setIfInBounds_toArray, List.set_cons_succ, List.set_cons_zero] at ha1
              subst hk1 ha1
              apply MonoJ.is0
              · kernel_rfl
              · intro L W hLk hsh hah hJ
                have hJ2 := lib_hid (chain_pure (k := 8) (w' := W) (by decide) (fun _ h => h) hJ)
                clear hJ hsh hah
                go_wp2
                refine ⟨rfl, rfl, ⟨trivial, hJ2.out⟩, ?_⟩
                unfold Oper.valAt
                go_simp
                rfl
              intro k1 a1 hk1 ha1
              simp only [Nat.reduceAdd] at hk1
              simp only [Act.put, List.setIfInBounds_toArray, List.set_cons_succ, List.set_cons_zero] at ha1
              subst hk1 ha1
              apply MonoJ.is0
              · kernel_rfl
              · intro L W hLk hsh hah hJ
                have hI := chain_none rfl (shut_off hsh (i := 9) (k := 23) (by omega) (by omega) hLk (by kernel_rfl)) hJ
                have hcc := cell32 hI.2.2.2.1 (4 + rb) (by rw [set4_len, s3l.out]; omega)
                rw [set4_zero, Hxb.out] at hcc
                clear hI
                have hJ2 := lib_hid (chain_pure (k := 9) (w' := W) (by decide) (fun _ h => h) hJ)
                clear hJ hsh hah
                go_wp2
                refine ⟨rfl, rfl, ⟨trivial, hJ2.out⟩, ?_⟩
                unfold Oper.valAt
                go_simp
                rfl
              intro k1 a1 hk1 ha1
              simp only [Nat.reduceAdd] at hk1
              simp only [Act.put, List.setIfInBounds_toArray, List.set_cons_succ, List.set_cons_zero] at ha1
              subst hk1 ha1
              apply MonoJ.is0
              · kernel_rfl
              · intro L W hLk hsh hah hJ
                have hJ2 := lib_hid (chain_pure (k := 10) (w' := W) (by decide) (fun _ h => h) hJ)
                clear hJ hsh hah
                go_wp2
                refine ⟨rfl, rfl, ⟨trivial, hJ2.out⟩, ?_⟩
                unfold Oper.valAt
                go_simp
                rfl
              intro k1 a1 hk1 ha1
              simp only [Nat.reduceAdd] at hk1
              simp only [Act.put, List.setIfInBounds_toArray, List.set_cons_succ, List.set_cons_zero] at ha1
              subst hk1 ha1
              apply MonoJ.is0
              · kernel_rfl
              · intro L W hLk hsh hah hJ
                have hJ2 := lib_hid (chain_pure (k := 11) (w' := W) (by decide) (fun _ h => h) hJ)
                clear hJ hsh hah
                go_wp2
                refine ⟨rfl, rfl, ⟨trivial, hJ2.out⟩, ?_⟩
                unfold Oper.valAt
                go_simp
                rfl
              intro k1 a1 hk1 ha1
              simp only [Nat.reduceAdd] at hk1
              simp only [Act.put, List.setIfInBounds_toArray, List.set_cons_succ, List.set_cons_zero] at ha1
              subst hk1 ha1
              apply MonoJ.is0
              · kernel_rfl
              · intro L W hLk hsh hah hJ
                have hI := chain_none rfl (shut_off hsh (i := 12) (k := 23) (by omega) (by omega) hLk (by kernel_rfl)) hJ
                have hcc := cell32 hI.2.2.2.1 (8 + rc) (by rw [set4_len, s3l.out]; omega)
                rw [set4_zero, Hxc.out] at hcc
                clear hI
                have hJ2 := lib_hid (chain_pure (k := 12) (w' := W) (by decide) (fun _ h => h) hJ)
                clear hJ hsh hah
                go_wp2
                refine ⟨rfl, rfl, ⟨trivial, hJ2.out⟩, ?_⟩
                unfold Oper.valAt
                go_simp
                rfl
              intro k1 a1 hk1 ha1
              simp only [Nat.reduceAdd] at hk1
              simp only [Act.put, List.setIfInBounds_toArray, List.set_cons_succ, List.set_cons_zero] at ha1
              subst hk1 ha1
              apply MonoJ.is0
              · kernel_rfl
              · intro L W hLk hsh hah hJ
                have hJ2 := lib_hid (chain_pure (k := 13) (w' := W) (by decide) (fun _ h => h) hJ)
                clear hJ hsh hah
                go_wp2
                refine ⟨rfl, rfl, ⟨trivial, hJ2.out⟩, ?_⟩
                unfold Oper.valAt
                go_simp
                rfl
              intro k1 a1 hk1 ha1
              simp only [Nat.reduceAdd] at hk1
              simp only [Act.put, List.setIfInBounds_toArray, List.set_cons_succ, List.set_cons_zero] at ha1
              subst hk1 ha1
              apply MonoJ.is0
              · kernel_rfl
              · intro L W hLk hsh hah hJ
                have hJ2 := lib_hid (chain_pure (k := 14) (w' := W) (by decide) (fun _ h => h) hJ)
                clear hJ hsh hah
                go_wp2
                refine ⟨rfl, rfl, ⟨trivial, hJ2.out⟩, ?_⟩
                unfold Oper.valAt
                go_simp
                rfl
              intro k1 a1 hk1 ha1
              simp only [Nat.reduceAdd] at hk1
              simp only [Act.put, List.setIfInBounds_toArray, List.set_cons_succ, List.set_cons_zero] at ha1
              subst hk1 ha1
              apply MonoJ.is0
              · kernel_rfl
              · intro L W hLk hsh hah hJ
                have hI := chain_none rfl (shut_off hsh (i := 15) (k := 23) (by omega) (by omega) hLk (by kernel_rfl)) hJ
                have hcc := cell32 hI.2.2.2.1 (12 + rd) (by rw [set4_len, s3l.out]; omega)
                rw [set4_zero, Hxd.out] at hcc
                clear hI
                have hJ2 := lib_hid (chain_pure (k := 15) (w' := W) (by decide) (fun _ h => h) hJ)
                clear hJ hsh hah
                go_wp2
                refine ⟨rfl, rfl, ⟨trivial, hJ2.out⟩, ?_⟩
                unfold Oper.valAt
                go_simp
                rfl
              intro k1 a1 hk1 ha1
              simp only [Nat.reduceAdd] at hk1
              simp only [Act.put, List.setIfInBounds_toArray, List.set_cons_succ, List.set_cons_zero] at ha1
              subst hk1 ha1
              apply MonoJ.is0
              · kernel_rfl
              · intro L W hLk hsh hah hJ
                clear hsh hah
                go_wp2_with fail
                refine (quarter_any xa xb xc xd W).mono ?_
                rintro e w1 ⟨rfl, hg1⟩
                have hJ2 := lib_hid (chain_pure (k := 16) (w' := w1) (by decide) (fun _ h => BInv.grows h hg1) hJ)
                clear hJ
                go_wp2
                refine ⟨rfl, rfl, ⟨trivial, hJ2.out⟩, ?_⟩
                unfold Oper.valAt
                go_simp
                rw [Hq.out]
                exact ⟨rfl, rfl, rfl, rfl⟩
              intro k1 a1 hk1 ha1
              simp only [Nat.reduceAdd] at hk1
              simp only [Act.put, List.setIfInBounds_toArray, List.set_cons_succ, List.set_cons_zero] at ha1
              subst hk1 ha1
              apply MonoJ.is0
              · kernel_rfl
              · intro L W hLk hsh hah hJ
                have hJ2 := lib_hid (chain_pure (k := 17) (w' := W) (by decide) (fun _ h => h) hJ)
                clear hJ hsh hah
                go_wp2
                refine ⟨rfl, rfl, ⟨trivial, hJ2.out⟩, ?_⟩
                unfold Oper.valAt
                go_simp
                rfl
              intro k1 a1 hk1 ha1
              simp only [Nat.reduceAdd] at hk1
              simp only [Act.put, List.setIfInBounds_toArray, List.set_cons_succ, List.set_cons_zero] at ha1
              subst hk1 ha1
              apply MonoJ.is0
              · kernel_rfl
              · intro L W hLk hsh hah hJ
                have hJ2 := lib_hid (chain_pure (k := 18) (w' := W) (by decide) (fun _ h => h) hJ)
                clear hJ hsh hah
                go_wp2
                refine ⟨rfl, rfl, ⟨trivial, hJ2.out⟩, ?_⟩
                unfold Oper.valAt
                go_simp
                rfl
              intro k1 a1 hk1 ha1
              simp only [Nat.reduceAdd] at hk1
              simp only [Act.put, List.setIfInBounds_toArray, List.set_cons_succ, List.set_cons_zero] at ha1
              subst hk1 ha1
              apply MonoJ.is0
              · kernel_rfl
              · intro L W hLk hsh hah hJ
                have hJ2 := lib_hid (chain_pure (k := 19) (w' := W) (by decide) (fun _ h => h) hJ)
                clear hJ hsh hah
                go_wp2
                refine ⟨rfl, rfl, ⟨trivial, hJ2.out⟩, ?_⟩
                unfold Oper.valAt
                go_simp
                rfl
              intro k1 a1 hk1 ha1
              simp only [Nat.reduceAdd] at hk1
              simp only [Act.put, List.setIfInBounds_toArray, List.set_cons_succ, List.set_cons_zero] at ha1
              subst hk1 ha1
              apply MonoJ.is0
              · kernel_rfl
              · intro L W hLk hsh hah hJ
                have hJ2 := lib_hid (chain_pure (k := 20) (w' := W) (by decide) (fun _ h => h) hJ)
                clear hJ hsh hah
                go_wp2
                refine ⟨rfl, rfl, ⟨trivial, hJ2.out⟩, ?_⟩
                unfold Oper.valAt
                go_simp
                rfl
              intro k1 a1 hk1 ha1
              simp only [Nat.reduceAdd] at hk1
              simp only [Act.put, List.setIfInBounds_toArray, List.set_cons_succ, List.set_cons_zero] at ha1
              subst hk1 ha1
              apply MonoJ.is0
              · kernel_rfl
              · intro L W hLk hsh hah hJ
                have hJ2 := lib_hid (chain_pure (k := 21) (w' := W) (by decide) (fun _ h => h) hJ)
                clear hJ hsh hah
                go_wp2
                refine ⟨rfl, rfl, ⟨trivial, hJ2.out⟩, ?_⟩
                unfold Oper.valAt
                go_simp
                rfl
              intro k1 a1 hk1 ha1
              simp only [Nat.reduceAdd] at hk1
              simp only [Act.put, List.setIfInBounds_toArray, List.set_cons_succ, List.set_cons_zero] at ha1
              subst hk1 ha1
              apply MonoJ.is0
              · kernel_rfl
              · intro L W hLk hsh hah hJ
                have hJ2 := lib_hid (chain_pure (k := 22) (w' := W) (by decide) (fun _ h => h) hJ)
                clear hJ hsh hah
                go_wp2
                refine ⟨rfl, rfl, ⟨trivial, hJ2.out⟩, ?_⟩
                unfold Oper.valAt
                go_simp
                rfl
              intro k1 a1 hk1 ha1
              simp only [Nat.reduceAdd] at hk1
              simp only [Act.put, List.setIfInBounds_toArray, List.set_cons_succ, List.set_cons_zero] at ha1
              subst hk1 ha1
              apply MonoJ.is0
              · kernel_rfl
              · intro L W hLk hsh hah hJ
                obtain ⟨hI, hLs⟩ := chain_at (i := 0) (k := 23) rfl hLk (fun j h => by cases h) hJ
                clear hJ hsh hah
                have hcc := cell32 hI.2.2.2.1 (j) (by rw [set4_len, s3l.out]; omega)
                have hff := hI.2.2.2.1.frozen (j)
                have hend : Hid (∀ w2, (fun m W => BInv w W g7 g8 was (set4 s3 j rb rc rd q1 q2 q3 q4 m)) 1 w2 → ChainJ [23, 25, 27, 29] (fun m W => BInv w W g7 g8 was (set4 s3 j rb rc rd q1 q2 q3 q4 m)) (setL L 23) w2) := fun w2 hw => chain_step (i := 0) (k := 23) rfl (by intro j h; rcases j with _ | _ | _ | _ | _ | _ <;> simp at h <;> omega) hLs hw
                clear hLs hLk
                go_wp2
                first | refine ⟨rfl, rfl, hend.out _ ?_, ?_⟩ | refine ⟨rfl, rfl, ⟨trivial, hend.out _ ?_⟩, ?_⟩
                · exact hI.set hz7 h78 _ _
                · rfl
              intro k1 a1 hk1 ha1
              simp only [Nat.reduceAdd] at hk1
              simp only [Act.put, List.setIfInBounds_toArray, List.set_cons_succ, List.set_cons_zero] at ha1
              subst hk1 ha1
              apply MonoJ.is0
              · kernel_rfl
              · intro L W hLk hsh hah hJ
                have hJ2 := lib_hid (chain_pure (k := 24) (w' := W) (by decide) (fun _ h => h) hJ)
                clear hJ hsh hah
                go_wp2
                refine ⟨rfl, rfl, ⟨trivial, hJ2.out⟩, ?_⟩
                unfold Oper.valAt
                go_simp
                rfl
              intro k1 a1 hk1 ha1
              simp only [Nat.reduceAdd] at hk1
              simp only [Act.put, List.setIfInBounds_toArray, List.set_cons_succ, List.set_cons_zero] at ha1
              subst hk1 ha1
              apply MonoJ.is0
              · kernel_rfl
              · intro L W hLk hsh hah hJ
                obtain ⟨hI, hLs⟩ := chain_at (i := 1) (k := 25) rfl hLk (fun j h => by cases h; exact ⟨23, rfl, hah 23 (by omega) (by kernel_rfl)⟩) hJ
                clear hJ hsh hah
                have hcc := cell32 hI.2.2.2.1 (4 + rb) (by rw [set4_len, s3l.out]; omega)
                have hff := hI.2.2.2.1.frozen (4 + rb)
                have hend : Hid (∀ w2, (fun m W => BInv w W g7 g8 was (set4 s3 j rb rc rd q1 q2 q3 q4 m)) 2 w2 → ChainJ [23, 25, 27, 29] (fun m W => BInv w W g7 g8 was (set4 s3 j rb rc rd q1 q2 q3 q4 m)) (setL L 25) w2) := fun w2 hw => chain_step (i := 1) (k := 25) rfl (by intro j h; rcases j with _ | _ | _ | _ | _ | _ <;> simp at h <;> omega) hLs hw
                clear hLs hLk
                go_wp2
                first | refine ⟨rfl, rfl, hend.out _ ?_, ?_⟩ | refine ⟨rfl, rfl, ⟨trivial, hend.out _ ?_⟩, ?_⟩
                · exact hI.set hz7 h78 _ _
                · rfl
              intro k1 a1 hk1 ha1
              simp only [Nat.reduceAdd] at hk1
              simp only [Act.put, List.setIfInBounds_toArray, List.set_cons_succ, List.set_cons_zero] at ha1
              subst hk1 ha1
              apply MonoJ.is0
              · kernel_rfl
              · intro L W hLk hsh hah hJ
                have hJ2 := lib_hid (chain_pure (k := 26) (w' := W) (by decide) (fun _ h => h) hJ)
                clear hJ hsh hah
                go_wp2
                refine ⟨rfl, rfl, ⟨trivial, hJ2.out⟩, ?_⟩
                unfold Oper.valAt
                go_simp
                rfl
              intro k1 a1 hk1 ha1
              simp only [Nat.reduceAdd] at hk1
              simp only [Act.put, List.setIfInBounds_toArray, List.set_cons_succ, List.set_cons_zero] at ha1
              subst hk1 ha1
              apply MonoJ.is0
              · kernel_rfl
              · intro L W hLk hsh hah hJ
                obtain ⟨hI, hLs⟩ := chain_at (i := 2) (k := 27) rfl hLk (fun j h => by cases h; exact ⟨25, rfl, hah 25 (by omega) (by kernel_rfl)⟩) hJ
                clear hJ hsh hah
                have hcc := cell32 hI.2.2.2.1 (8 + rc) (by rw [set4_len, s3l.out]; omega)
                have hff := hI.2.2.2.1.frozen (8 + rc)
                have hend : Hid (∀ w2, (fun m W => BInv w W g7 g8 was (set4 s3 j rb rc rd q1 q2 q3 q4 m)) 3 w2 → ChainJ [23, 25, 27, 29] (fun m W => BInv w W g7 g8 was (set4 s3 j rb rc rd q1 q2 q3 q4 m)) (setL L 27) w2) := fun w2 hw => chain_step (i := 2) (k := 27) rfl (by intro j h; rcases j with _ | _ | _ | _ | _ | _ <;> simp at h <;> omega) hLs hw
                clear hLs hLk
                go_wp2
                first | refine ⟨rfl, rfl, hend.out _ ?_, ?_⟩ | refine ⟨rfl, rfl, ⟨trivial, hend.out _ ?_⟩, ?_⟩
                · exact hI.set hz7 h78 _ _
                · rfl
              intro k1 a1 hk1 ha1
              simp only [Nat.reduceAdd] at hk1
              simp only [Act.put, List.setIfInBounds_toArray, List.set_cons_succ, List.set_cons_zero] at ha1
              subst hk1 ha1
              apply MonoJ.is0
              · kernel_rfl
              · intro L W hLk hsh hah hJ
                have hJ2 := lib_hid (chain_pure (k := 28) (w' := W) (by decide) (fun _ h => h) hJ)
                clear hJ hsh hah
                go_wp2
                refine ⟨rfl, rfl, ⟨trivial, hJ2.out⟩, ?_⟩
                unfold Oper.valAt
                go_simp
                rfl
              intro k1 a1 hk1 ha1
              simp only [Nat.reduceAdd] at hk1
              simp only [Act.put, List.setIfInBounds_toArray, List.set_cons_succ, List.set_cons_zero] at ha1
              subst hk1 ha1
              apply MonoJ.is0
              · kernel_rfl
              · intro L W hLk hsh hah hJ
                obtain ⟨hI, hLs⟩ := chain_at (i := 3) (k := 29) rfl hLk (fun j h => by cases h; exact ⟨27, rfl, hah 27 (by omega) (by kernel_rfl)⟩) hJ
                clear hJ hsh hah
                have hcc := cell32 hI.2.2.2.1 (12 + rd) (by rw [set4_len, s3l.out]; omega)
                have hff := hI.2.2.2.1.frozen (12 + rd)
                have hend : Hid (∀ w2, (fun m W => BInv w W g7 g8 was (set4 s3 j rb rc rd q1 q2 q3 q4 m)) 4 w2 → ChainJ [23, 25, 27, 29] (fun m W => BInv w W g7 g8 was (set4 s3 j rb rc rd q1 q2 q3 q4 m)) (setL L 29) w2) := fun w2 hw => chain_step (i := 3) (k := 29) rfl (by intro j h; rcases j with _ | _ | _ | _ | _ | _ <;> simp at h <;> omega) hLs hw
                clear hLs hLk
                go_wp2
                first | refine ⟨rfl, rfl, hend.out _ ?_, ?_⟩ | refine ⟨rfl, rfl, ⟨trivial, hend.out _ ?_⟩, ?_⟩
                · exact hI.set hz7 h78 _ _
                · rfl
              intro k1 a1 hk1 ha1
              simp only [Nat.reduceAdd] at hk1
              simp only [Act.put, List.setIfInBounds_toArray, List.set_cons_succ, List.set_cons_zero] at ha1
              subst hk1 ha1
              refine MonoJ.done ?_
              intro wm hJ
              obtain ⟨mj, hm, hI⟩ := chain_end (by decide) hJ
              clear hJ
              simp only [allF, List.drop_succ_cons, List.drop_nil]
              go_wp2
              go_roundw
              case rel => exact ⟨j + 1, by omega, by go_num, by rw [Hstep.out, ← set4_all s3 j rb rc rd q1 q2 q3 q4 mj hm]; exact hI⟩
              case measure => simp [intOf]; omega
            · have Hj4 : Hid (j = 4) := by unfold Hid; omega
              have hI4 : BInv w wr g7 g8 was (midN (k + 1) s1) := by rw [midN, Hs2.out]; rw [Hj4.out] at hI3; exact hI3
              go_wp2
              go_roundw
              case rel => exact ⟨k + 1, by omega, by go_num, hI4⟩
              case measure => simp [intOf]; omega
        · have Hk2 : Hid (k = 2) := by unfold Hid; omega
          have hI4 : BInv w wq g7 g8 was (outN (t + 1) was) := by rw [outN, Hs1.out]; rw [Hk2.out] at hI2; exact hI2
          go_wp2
          go_roundw
          case rel => exact ⟨t + 1, by omega, by go_num, hI4⟩
          case measure => simp [intOf]; omega
    · have Ht10 : Hid (t = 10) := by unfold Hid; omega
      obtain ⟨fin, Hfin, finl⟩ : ∃ s, Hid (outN t was = s) ∧ Hid (s.length = 16) := ⟨_, lib_hid rfl, by unfold Hid; rw [outN_len]; exact wasl.out⟩
      rw [Hfin.out] at hI
      go_upto_region 17 with fail
      have Hfin2 : Hid (∀ N, N = 16 → bc = wordsN fin was N) := fun N hN => Hbc.out was t N fin Hwas.out Ht10.out hN Hfin.out
      obtain ⟨g15, Hg15⟩ : ∃ g, Hid (wo.heap.size = g) := ⟨_, lib_hid rfl⟩
      have h815 : g8 < g15 := by rw [← Hg15.out]; exact hI.2.1
      obtain ⟨W4, HW4⟩ : ∃ W : World, Hid (W = wo.alloc (.cells ((List.replicate 64 (0 : UInt8)).map b8).toArray 48)) := ⟨_, lib_hid rfl⟩
      have hI6 : BInv w W4 g7 g8 was fin := by rw [HW4.out]; exact hI.grows ((Grows.refl _).alloc _)
      have hO : Hid (Blk W4 g15 48 ((wordsN fin was 0).map b8).toArray) := by unfold Hid; rw [HW4.out, ← Hg15.out]; exact Blk.new _ _ _
      rw [Hz64.out, ← HW4.out, Hg15.out]
      clear Hfin Ht10 hI
      go_wp2_with fail
      go_loopw [16, 77] (fun _ i wr => ∃ k : Nat, k ≤ 16 ∧ i = .int .i64 k ∧ BInv w wr g7 g8 was fin ∧ Hid (Blk wr g15 48 ((wordsN fin was k).map b8).toArray)) (fun _ i _ => 16 - (intOf i).toNat)
      case atStart => exact ⟨0, by omega, rfl, hI6, hO⟩
      case round =>
        obtain ⟨k, hk, rfl, hI8, hO⟩ := hrel
        by_cases hlt : k < 16
        · have hslc := run_slice_arr_l (P := Try.prog) Try.underlying48 Try.sizeByte g15 (4 * k) (4 * (k : Int)) (by omega) (by omega)
          rw [show 64 - 4 * k = 64 - 4 * k from rfl] at hslc
          obtain ⟨sk, Hsk⟩ : ∃ x, Hid (fin.getD k 0 = x) := ⟨_, lib_hid rfl⟩
          obtain ⟨wk, Hwk⟩ : ∃ x, Hid (was.getD k 0 = x) := ⟨_, lib_hid rfl⟩
          obtain ⟨sm, Hsm, hsm⟩ : ∃ x : UInt32, Hid (sk + wk = x) ∧ IntKind.u32.wrap ((sk.toNat : Int) + (wk.toNat : Int)) = (x.toNat : Int) := ⟨_, lib_hid rfl, u32_wrap_add _ _⟩
          obtain ⟨x64, Hx64, hx64⟩ : ∃ x : UInt64, Hid (sm.toUInt64 = x) ∧ IntKind.u64.wrap (sm.toNat : Int) = (x.toNat : Int) := ⟨_, lib_hid rfl, u64_of_u32 _⟩
          have Hstep : Hid (wordsN fin was (k + 1) = splice (wordsN fin was k) (4 * k) (putLittleF x64 4)) := by unfold Hid; rw [wordsN, Hsk.out, Hwk.out, Hsm.out, Hx64.out]
          have Hwl := lib_hid (wordsN_len fin was k hk)
          have cS : Hid (∀ W, Grows wr W → W.cell? ⟨g8, k, none⟩ = some (b32 sk)) := fun W hW => by rw [← Hsk.out]; exact cell32 (hI8.grows hW).2.2.2.1 _ (by rw [finl.out]; omega)
          have cW : Hid (∀ W, Grows wr W → W.cell? ⟨g7, k, none⟩ = some (b32 wk)) := fun W hW => by rw [← Hwk.out]; exact cell32 (hI8.grows hW).2.2.1 _ (by rw [wasl.out]; omega)
          go_upto_region 20 with fail
          apply wp_region_mono 12 ((.is _, []) :: (.is _, []) :: (.is _, []) :: (.is _, []) :: (.is _, []) :: (.is _, []) :: (.is _, []) :: (.is _, []) :: (.is _, []) :: (.is _, []) :: (.is _, []) :: (.pr (fun v W => ∃ A n c, v = .slice A n c ∧ SB W A n c (putLittleF x64 4)), []) :: []) (by kernel_rfl) (by kernel_rfl)
          iterate 2
            apply Mono.is0
            · kernel_rfl
            · intro W hW
              go_wp2
              refine ⟨rfl, rfl, Grows.refl _, ?_⟩
              unfold Oper.valAt
              go_simp
              rfl
            intro k1 a1 hk1 ha1
            simp only [Nat.reduceAdd] at hk1
            simp only [Act.put, List.setIfInBounds_toArray, List.set_cons_succ, List.set_cons_zero] at ha1
            subst hk1 ha1
          apply Mono.is0
          · kernel_rfl
          · intro W hW
            have hcc := hslc W
            go_wp2
            refine ⟨rfl, rfl, Grows.refl _, ?_⟩
            unfold Oper.valAt
            go_simp
            rfl
          intro k1 a1 hk1 ha1
          simp only [Nat.reduceAdd] at hk1
          simp only [Act.put, List.setIfInBounds_toArray, List.set_cons_succ, List.set_cons_zero] at ha1
          subst hk1 ha1
          iterate 2
            apply Mono.is0
            · kernel_rfl
            · intro W hW
              go_wp2
              refine ⟨rfl, rfl, Grows.refl _, ?_⟩
              unfold Oper.valAt
              go_simp
              rfl
            intro k1 a1 hk1 ha1
            simp only [Nat.reduceAdd] at hk1
            simp only [Act.put, List.setIfInBounds_toArray, List.set_cons_succ, List.set_cons_zero] at ha1
            subst hk1 ha1
          apply Mono.is0
          · kernel_rfl
          · intro W hW
            have hcc := cS.out W hW
            go_wp2
            refine ⟨rfl, rfl, Grows.refl _, ?_⟩
            unfold Oper.valAt
            go_simp
            rfl
          intro k1 a1 hk1 ha1
          simp only [Nat.reduceAdd] at hk1
          simp only [Act.put, List.setIfInBounds_toArray, List.set_cons_succ, List.set_cons_zero] at ha1
          subst hk1 ha1
          iterate 2
            apply Mono.is0
            · kernel_rfl
            · intro W hW
              go_wp2
              refine ⟨rfl, rfl, Grows.refl _, ?_⟩
              unfold Oper.valAt
              go_simp
              rfl
            intro k1 a1 hk1 ha1
            simp only [Nat.reduceAdd] at hk1
            simp only [Act.put, List.setIfInBounds_toArray, List.set_cons_succ, List.set_cons_zero] at ha1
            subst hk1 ha1
          apply Mono.is0
          · kernel_rfl
          · intro W hW
            have hcc := cW.out W hW
            go_wp2
            refine ⟨rfl, rfl, Grows.refl _, ?_⟩
            unfold Oper.valAt
            go_simp
            rfl
          intro k1 a1 hk1 ha1
          simp only [Nat.reduceAdd] at hk1
          simp only [Act.put, List.setIfInBounds_toArray, List.set_cons_succ, List.set_cons_zero] at ha1
          subst hk1 ha1
          iterate 2
            apply Mono.is0
            · kernel_rfl
            · intro W hW
              go_wp2
              refine ⟨rfl, rfl, Grows.refl _, ?_⟩
              unfold Oper.valAt
              go_simp
              rfl
            intro k1 a1 hk1 ha1
            simp only [Nat.reduceAdd] at hk1
            simp only [Act.put, List.setIfInBounds_toArray, List.set_cons_succ, List.set_cons_zero] at ha1
            subst hk1 ha1
          apply Mono.pr0
          · kernel_rfl
          · exact fun v W W' hW ⟨A, n, c, h1, h2⟩ => ⟨A, n, c, h1, h2.grows hW⟩
          · intro W hW 
            go_wp2_with fail
            refine (putLittle_any x64 4 W (by omega)).mono ?_
            rintro e w1 ⟨A1, n1, c1, hn1, rfl, hg1, ho1⟩
            go_wp2
            exact ⟨rfl, rfl, hg1, A1, n1, c1, rfl, SB.own ho1⟩
          intro v11
          intro k1 a1 hk1 ha1
          simp only [Nat.reduceAdd] at hk1
          simp only [Act.put, List.setIfInBounds_toArray, List.set_cons_succ, List.set_cons_zero] at ha1
          subst hk1 ha1
          refine Mono.done ?_
          intro wm hgm
          simp only [allF, List.drop_succ_cons, List.drop_zero]
          intro g11
          obtain ⟨A2, n2, c2, rfl, hs2⟩ := g11
          obtain rfl : n2 = 4 := by have := hs2.len; simp [putLittleF] at this; omega
          have HS2 := lib_hid hs2
          have HO2 := lib_hid (hO.out.grows hgm)
          have hI9 := hI8.grows hgm
          have hb2 : Below g15 wm wm := Below.refl _ _
          clear hs2 hO hI8 hslc cS cW
          go_wp2_with (refine wpList_copy_blk rfl _ _ 22 22 rfl 5 Try.underlying22 Try.sizeByte g15 (4 * k) (64 - 4 * k) (64 - 4 * k) rfl A2 4 c2 rfl _ 48 HO2.out _ HS2.out (by omega) (by simp [Hwl.out]; omega) (b8_one _) g15 wm hb2 (Nat.le_refl _) ?_; intro w3 HB3 hb3)
          have HB4 : Hid (Blk w3 g15 48 ((wordsN fin was (k + 1)).map b8).toArray) := by unfold Hid; rw [Hstep.out, ← splice_map]; exact HB3
          have hI10 := hI9.below hz7 h78 h815 hb3
          go_roundw
          case rel => exact ⟨k + 1, by omega, by go_num, hI10, HB4⟩
          case measure => simp [intOf]; omega
        · have Hk16 : Hid (k = 16) := by unfold Hid; omega
          obtain ⟨res2, Hres2, hrl2, hra2⟩ : ∃ r : Array Value, Hid ((bc.map b8).toArray = r) ∧ r.size = 64 ∧ r.all (·.oneCell') = true := ⟨_, lib_hid rfl, by simp [bcl.out], cells_all _⟩
          have hO9 : Blk wr g15 48 res2 := by rw [← Hres2.out, Hfin2.out k Hk16.out]; exact hO.out
          have hR9 := lib_hid hI8.2.2.2.2
          have HO9 := lib_hid hO9
          have Hsz : Hid ((((List.replicate 64 (0 : UInt8)).map b8).toArray : Array Value).size = res2.size) := by unfold Hid; rw [hrl2, List.size_toArray, List.length_map, List.length_replicate]
          have hgr9 := hI8.1
          clear hO hO9 hI8 Hz64
          go_wp2_with (first
            | (refine wpList_load_blk rfl _ _ rfl g15 rfl _ res2 _ HO9.out Try.underlying48 rfl (by rw [Try.size64, hrl2]) ?_)
            | (refine wpList_store_blk rfl _ _ _ rfl (w.heap.size + 2) res2 rfl rfl _ _ hR9.out (by rw [Try.size64, hrl2]) Hsz.out hra2 (w.heap.size + 2) wr (Below.refl _ _) (Nat.le_refl _) ?_; intro w5 HR6 hb5 hgr5))
          refine bodyPost_ret (results_cell_row rfl _ _ (w.heap.size + 2) _ res2 _ _ rfl HR6 Try.underlying48 rfl (by rw [Try.size64, hrl2])) rfl ?_
          exact ⟨by rw [Hres2.out], Below.trans hgr9 (hb5.mono (by omega))⟩

set_option maxRecDepth 100000 in
set_option maxHeartbeats 4000000 in
theorem blockc_any (key nonce : List UInt8) (n : UInt32) (hk : key.length = 32) (hn : nonce.length = 12) (w : World) :
    Calls Try.prog 24 #[.agg (key.map b8).toArray, .agg (nonce.map b8).toArray, b32 n] w fun e w' => e = .returned (.agg ((blockC key nonce n).map b8).toArray) ∧ Grows w w' :=
  blockc_gen key nonce n hk hn w _ (blockC_len key nonce n) (fun was T N fin h1 h2 h3 h4 => by subst h1 h2 h3 h4; rfl)

end Go.Proofs.Ytgolndfimhogoaa
