/-
  desc.Encode.
-/
import Derived.Test.YtbmmjkpibnnmeaaDec2
import Derived.Test.YtbmmjkpibnnmeaaBits2
namespace Go.Proofs.Ytbmmjkpibnnmeaa
open Go Go.RowKit
set_option linter.unusedSimpArgs false
set_option linter.unusedVariables false


theorem run_index_arrE {P : Program} {t e : TypeId} {n : Nat} (ht : P.underlying t = some (.array n e)) (hs : (P.info? e).map (·.size) = some 1) (d : TypeDesc) (hag : (match d with | .struct _ | .array _ _ => true | _ => false) = false) (hd : P.underlying e = some d)
    (cs : Array Value) (v : Value) (k : IntKind) (i : Nat) (hi : i < n) (hv : cs[i]? = some v) (W : World) : Sem.run P (Instr.index t (.agg cs) (.int k (i : Int))) W = .ok v W := by
  obtain ⟨inf, hi', hi1⟩ := Option.map_eq_some_iff.1 hs
  have hz : (sizeOf e).run P W = .ok 1 W := by simp [sizeOf, typeInfo, hi', hi1]
  have hb : 0 ≤ (i : Int) ∧ (i : Int) < (n : Int) := by omega
  have ha : (isAgg e).run P W = .ok false W := by
    cases d <;> simp_all [isAgg, run_underlying hd]
  simp [Instr.index, run_underlying ht, asIntOf, hb, hz, ha, part, hv, go_sem]
  intro hh; omega

def ints (l : List (Int × Int)) : List Int := l.flatMap fun p => [p.1, p.2]
def encI (xs : List Int) : List UInt8 := xs.flatMap fun x => putLittleF (UInt64.ofNat x.toNat) 4
def okE (x : Int) : Bool := decide (0 ≤ x) && decide (x < 4294967296)
def encR (l : List (Int × Int)) : List UInt8 × Int := if 8 < l.length then ([], 10) else if (ints l).all okE then (encI (ints l), 0) else ([], 1)
theorem encI_len (xs : List Int) : (encI xs).length = 4 * xs.length := by
  induction xs with
  | nil => rfl
  | cons x xs ih => unfold encI at *; rw [List.flatMap_cons, List.length_append, ih]; simp [putLittleF]; omega
theorem ints_len (l : List (Int × Int)) : (ints l).length = 2 * l.length := by
  induction l with
  | nil => rfl
  | cons x xs ih => unfold ints at *; rw [List.flatMap_cons, List.length_append, ih]; simp; omega
theorem encI_append (xs ys : List Int) : encI (xs ++ ys) = encI xs ++ encI ys := by unfold encI; rw [List.flatMap_append]
theorem ints_append (xs ys : List (Int × Int)) : ints (xs ++ ys) = ints xs ++ ints ys := by unfold ints; rw [List.flatMap_append]
theorem ints_succ {l : List (Int × Int)} {k : Nat} {x y : Int} (h : l[k]? = some (x, y)) : ints (l.take (k + 1)) = ints (l.take k) ++ [x, y] := by
  rw [List.take_add_one, h, ints_append]
  rfl
theorem encR_no {l : List (Int × Int)} {k m : Nat} {x y z : Int} (hl : l.length ≤ 8) (h : l[k]? = some (x, y)) (hz : [x, y][m]? = some z) (ho : okE z = false) : encR l = ([], 1) := by
  unfold encR
  rw [if_neg (by omega), if_neg ?_]
  intro hall
  have h1 := List.all_eq_true.1 hall z (by
    unfold ints
    rw [List.mem_flatMap]
    exact ⟨(x, y), List.mem_of_getElem? h, List.mem_of_getElem? hz⟩)
  rw [ho] at h1
  cases h1
theorem encR_yes {l : List (Int × Int)} (hl : l.length ≤ 8) (h : (ints l).all okE = true) : encR l = (encI (ints l), 0) := by
  unfold encR
  rw [if_neg (by omega), if_pos h]
/-- What a call hands back in new memory: bytes, and a number. -/
def NewEn (w : World) (bs : List UInt8) (E : Int) (e : Ending) (w' : World) : Prop :=
  ∃ A n c, Hid (n = bs.length) ∧ e = .returned (.tuple #[.slice A n c, .int .i64 E]) ∧ Grows w w' ∧ SB w' A n c bs
theorem Try.arr2i : Try.prog.underlying 87 = some (.array 2 3) := by kernel_rfl
theorem Try.sizeInt : (Try.prog.info? 3).map (·.size) = some 1 := by kernel_rfl
set_option maxRecDepth 100000 in
set_option maxHeartbeats 4000000 in
theorem encode_any (l : List (Int × Int)) (A : Option Addr) (n c : Nat) (w : World) (hs : SpanR w A n c l) (hm : n ≤ 1000000) :
    Calls Try.prog 34 #[.slice A n c] w (NewEn w (encR l).1 (encR l).2) := by
  have HS := lib_hid hs
  have hll := lib_hid hs.len
  clear hs
  by_cases hbig : 8 < n
  · have hb : (8 : Int) < n := by omega
    have Hd : Hid (encR l = ([], 10)) := by unfold Hid encR; rw [hll.out, if_pos hbig]
    rw [Hd.out]
    go_enter Try.func34, Try.ntmps34
    go_wp2
    go_ret2
    exact ⟨none, 0, 0, lib_hid rfl, rfl, Grows.refl w, SB.nil _⟩
  have hb : ¬ (8 : Int) < n := by omega
  have Hl8 : Hid (l.length ≤ 8) := by unfold Hid; rw [hll.out]; omega
  go_enter Try.func34, Try.ntmps34
  go_wp2
  clear hb
  go_loopw [4, 14] (fun v i wr => ∃ (k s : Nat) (C : Option Addr) (e : Nat), k ≤ n ∧ i = .int .i64 (k : Int) ∧ v = .slice C s e ∧ s ≤ 64 ∧ Hid (s = 8 * k) ∧ Hid ((ints (l.take k)).all okE = true) ∧ Grows w wr ∧ Hid (wr.ownsRow w.heap.size 5 1 (.slice C s e) s ((encI (ints (l.take k))).map b8))) (fun _ i _ => n - (intOf i).toNat)
  case atStart => exact ⟨0, 0, none, 0, Nat.zero_le _, rfl, rfl, by omega, lib_hid rfl, lib_hid rfl, Grows.refl w, lib_hid (World.ownsRow_nil _ _ _ _)⟩
  case round =>
    obtain ⟨k, s, C, e, hk, rfl, rfl, hs64, Hs, Hok, hgr, HO⟩ := hrel
    by_cases hlt : k < n
    · have hki : (k : Int) < n := by omega
      obtain ⟨b, off, x, y, rfl, hb, hxy, hc1, hc2⟩ := HS.out.at hlt
      have e1 := (hgr.cell (p := ⟨b, off + k * 2, none⟩) hb).trans hc1
      have e2 := (hgr.cell (p := ⟨b, off + k * 2 + 1, none⟩) hb).trans hc2
      have hb' : b < wr.heap.size := hgr.lt hb
      have Hxy := lib_hid hxy
      obtain ⟨P0, HP0⟩ : ∃ P0, Hid (encI (ints (l.take k)) = P0) := ⟨_, lib_hid rfl⟩
      rw [HP0.out] at HO
      have hg1 : Grows w (wr.alloc (.cells #[.int .i64 x, .int .i64 y] 28)) := hgr.alloc _
      have HO1 := lib_hid (own_grows HO.out ((Grows.refl wr).alloc (.cells #[.int .i64 x, .int .i64 y] 28)))
      have Hg1 := lib_hid hg1
      clear hc1 hc2 hxy hb hg1 HO hgr
      go_wp2
      go_loopw [4, 23] (fun v j wr2 => ∃ (m s2 : Nat) (C2 : Option Addr) (e2 : Nat), m ≤ 2 ∧ j = .int .i64 (m : Int) ∧ v = .slice C2 s2 e2 ∧ s2 ≤ 80 ∧ Hid (s2 = s + 4 * m) ∧ Hid (([x, y].take m).all okE = true) ∧ Grows w wr2 ∧ Hid (wr2.ownsRow w.heap.size 5 1 (.slice C2 s2 e2) s2 ((P0 ++ encI ([x, y].take m)).map b8))) (fun _ j _ => 2 - (intOf j).toNat)
      case atStart => exact ⟨0, s, C, e, Nat.zero_le _, rfl, rfl, by omega, lib_hid rfl, lib_hid rfl, Hg1.out, lib_hid (by have := HO1.out; rw [List.take_zero, show encI [] = [] from rfl, List.append_nil]; exact this)⟩
      case round =>
        obtain ⟨m, s2, C2, e2, hm2, rfl, rfl, hs80, Hs2, Hok2, hgr2, HO2⟩ := hrel
        by_cases hlt2 : m < 2
        · have hmi : (m : Int) < 2 := by omega
          obtain ⟨z, hz⟩ : ∃ z, [x, y][m]? = some z := ⟨[x, y][m], List.getElem?_eq_getElem _⟩
          have hix := fun W => run_index_arrE (P := Try.prog) Try.arr2i Try.sizeInt _ rfl Try.underlying3 #[.int .i64 x, .int .i64 y] (.int .i64 z) .i64 m hlt2 (by
            rw [List.getElem?_toArray, show ([Value.int .i64 x, .int .i64 y]) = [x, y].map (fun u => Value.int .i64 u) from rfl, List.getElem?_map, hz]; rfl) W
          have Hz := lib_hid hz
          clear hz
          by_cases h1 : z < 0
          · have Hd : Hid (encR l = ([], 1)) := encR_no Hl8.out Hxy.out Hz.out (by unfold okE; rw [decide_eq_false (by omega)]; rfl)
            go_wp2
            go_ret2
            rw [Hd.out]
            exact ⟨none, 0, 0, lib_hid rfl, rfl, hgr2, SB.nil _⟩
          by_cases h2 : 4294967296 ≤ z
          · have Hd : Hid (encR l = ([], 1)) := encR_no Hl8.out Hxy.out Hz.out (by unfold okE; rw [decide_eq_false (show ¬ z < 4294967296 by omega)]; exact Bool.and_false _)
            go_wp2
            go_ret2
            rw [Hd.out]
            exact ⟨none, 0, 0, lib_hid rfl, rfl, hgr2, SB.nil _⟩
          obtain ⟨u, rfl⟩ : ∃ u : Nat, z = (u : Int) := ⟨z.toNat, by omega⟩
          have hu0 : ¬ (4294967296 : Int) ≤ (u : Int) := h2
          have hu1 : (u : Int) < 4294967296 := by omega
          have Hpl : Hid (∀ W, Calls Try.prog 52 #[.int .u64 (u : Int), .int .i64 4] W (NewB 5 W (encI [(u : Int)]))) := fun W => by
            have h3 := putLittle_any (UInt64.ofNat u) 4 W (by omega)
            rw [show (UInt64.ofNat u).toNat = u by rw [UInt64.toNat_ofNat']; exact Nat.mod_eq_of_lt (by omega)] at h3
            exact h3
          have Hok3 : Hid (([x, y].take (m + 1)).all okE = true) := by
            unfold Hid
            rw [List.take_add_one, Hz.out, List.all_append, Hok2.out]
            simp [okE]; omega
          have Hen : Hid (encI ([x, y].take (m + 1)) = encI ([x, y].take m) ++ encI [(u : Int)]) := by
            unfold Hid
            rw [List.take_add_one, Hz.out, encI_append]; rfl
          have Hg2 := lib_hid hgr2
          have hmw : IntKind.u64.wrap (u : Int) = (u : Int) := by rw [IntKind.wrap_u64]; omega
          clear hgr2 h2
          go_wp2_with (first
            | (go_at_call 52; refine (Hpl.out _).mono ?_; rintro e w1 ⟨A1, n1, c1, hn1, rfl, hg1, ho1⟩; obtain rfl : n1 = 4 := (by rw [hn1.out, encI_len]; rfl); have HO3 := lib_hid (own_grows HO2.out hg1); have HS3 := lib_hid (SB.own ho1); have Hg3 := lib_hid (Hg2.out.trans hg1); clear hg1 ho1 hn1 Hpl)
            | (at_builtin; refine wpList_append rfl _ _ 44 rfl w.heap.size 5 (.int .u8 0) 1 Try.underlying44 Try.infoByte rfl _ s2 _ rfl HO3.out _ _ _ _ rfl HS3.out (b8_one _) (by omega) (by omega) (by have := Hg3.out.size; omega) ?_; intro A4 c4 w4 ho4 hb4 hg4; have HO4 := lib_hid ho4; have hgr4 : Grows w w4 := Below.trans Hg3.out hb4; clear ho4 hb4 hg4 HO3 HS3))
          go_roundw
          case rel => exact ⟨m + 1, s2 + 4, A4, c4, by omega, by go_num, rfl, by have := Hs2.out; omega, lib_hid (by have := Hs2.out; omega), Hok3, hgr4, lib_hid (by rw [Hen.out, ← List.append_assoc, List.map_append]; exact HO4.out)⟩
          case measure => simp [intOf]; omega
        · have hmi : ¬ (m : Int) < 2 := by omega
          obtain rfl : m = 2 := by omega
          have Hok4 : Hid ((ints (l.take (k + 1))).all okE = true) := by
            unfold Hid
            rw [ints_succ Hxy.out, List.all_append, Hok.out]
            exact Hok2.out
          have HO5 : Hid (wr.ownsRow w.heap.size 5 1 (.slice C2 s2 e2) s2 ((encI (ints (l.take (k + 1)))).map b8)) := by
            unfold Hid
            rw [ints_succ Hxy.out, encI_append, HP0.out]
            exact HO2.out
          clear HO2 Hok2
          go_wp2
          go_roundw
          case rel => exact ⟨k + 1, s2, C2, e2, by omega, by go_num, rfl, by have := Hs.out; have := Hs2.out; omega, lib_hid (by have := Hs.out; have := Hs2.out; omega), Hok4, hgr2, HO5⟩
          case measure => simp [intOf]; omega
    · have hki : ¬ (k : Int) < n := by omega
      have hkn : k = n := by omega
      subst hkn
      have Hd : Hid (encR l = (encI (ints l), 0)) := encR_yes Hl8.out (by have := Hok.out; rwa [List.take_of_length_le (by rw [hll.out]; omega)] at this)
      have HO2 := HO.out
      rw [List.take_of_length_le (by rw [hll.out]; omega)] at HO2
      go_wp2
      go_ret2
      rw [Hd.out]
      exact ⟨C, s, e, lib_hid (by rw [encI_len, ints_len, hll.out, Hs.out]; omega), rfl, hgr, SB.own HO2⟩
end Go.Proofs.Ytbmmjkpibnnmeaa
