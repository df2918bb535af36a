/-
  The walk of ArenaOver.
-/
import Derived.Test.YtbmmjkpibnnmeaaArena5
import Derived.Test.YtbmmjkpibnnmeaaOpen2
import Derived.Deep.Cut
import Derived.Outline
namespace Go.Proofs.Ytbmmjkpibnnmeaa
open Go Go.RowKit
set_option linter.unusedSimpArgs false


theorem over_put (b : List UInt8) (k : Nat) (hk : k < 64) : ∀ j, j ≤ b.length → ∃ mem, putT (List.replicate 64 0) 0 b ((List.replicate b.length ((k : Int), (1 : Int))).take j) = (mem, b.drop j) ∧ mem.length = 64 ∧ ∀ i, j = i + 1 → mem[k]? = b[i]?
  | 0, _ => ⟨_, rfl, by simp, fun i h => by omega⟩
  | j + 1, h => by
    obtain ⟨mem, h1, h2, _⟩ := over_put b k hk j (by omega)
    have hj : (List.replicate b.length ((k : Int), (1 : Int)))[j]? = some ((k : Int), (1 : Int)) := by
      rw [List.getElem?_replicate, if_pos (by omega)]
    have ht : (b.drop j).take 1 = [b[j]'(by omega)] := by rw [List.drop_eq_getElem_cons (by omega)]; rfl
    refine ⟨splice mem k [b[j]'(by omega)], ?_, ?_, ?_⟩
    · rw [putT_succ hj, h1, putStep]
      simp only [Int.toNat_natCast, Nat.zero_add, show (1 : Int).toNat = 1 from rfl, ht, List.length_singleton, List.drop_drop]
    · rw [splice_len _ _ _ (by simp; omega), h2]
    · intro i hi
      have : i = j := by omega
      subst this
      unfold splice
      rw [List.getElem?_append_right (by simp; omega), List.getElem?_append_left (by simp; omega), List.length_take]
      rw [show min k mem.length = k by omega, Nat.sub_self, List.getElem?_eq_getElem (l := b) (by omega)]
      rfl
theorem gath_rep (mem : List UInt8) (k : Nat) (z : UInt8) (hz : mem[k]? = some z) : ∀ n, gathF mem 0 (List.replicate n ((k : Int), (1 : Int))) = List.replicate n z
  | 0 => rfl
  | n + 1 => by
    have hk : k < mem.length := (List.getElem?_eq_some_iff.1 hz).1
    have hp : partF mem 0 ((k : Int), (1 : Int)) = [z] := by
      unfold partF
      simp only [Int.toNat_natCast, Nat.zero_add, show (1 : Int).toNat = 1 from rfl]
      rw [List.drop_eq_getElem_cons hk, List.take_succ_cons, List.take_zero]
      rw [List.getElem?_eq_getElem hk] at hz
      rw [Option.some.inj hz]
    have ih := gath_rep mem k z hz n
    rw [List.replicate_succ, List.replicate_succ, ← ih]
    show partF mem 0 _ ++ _ = _
    rw [hp]
    rfl
theorem over_E (n k : Nat) (hn : n ≤ 8) (hk : k < 64) : doesE 1 64 0 (List.replicate n ((k : Int), (1 : Int))) = 0 := by
  unfold doesE chkE
  rw [if_pos (by omega), if_neg (by simp; omega), if_pos]
  rw [List.all_eq_true]
  intro p hp
  rw [(List.mem_replicate.1 hp).2, fit_iff]
  simp only
  omega
theorem over_room (n k : Nat) : roomF (List.replicate n ((k : Int), (1 : Int))) = n := by
  unfold roomF
  rw [List.map_replicate]
  induction n with
  | zero => rfl
  | succ n ih => rw [List.replicate_succ, List.sum_cons, ih]; omega
theorem I64k (k : Nat) (hk : k < 4096) : I64 (k : Int) := by unfold I64; omega

set_option maxRecDepth 100000 in
set_option maxHeartbeats 4000000 in
theorem walk_ArenaOver (A : Option Addr) (n c : Nat) (bs : List UInt8) (at_ : UInt8) (w : World) (hb : SB w A n c bs) :
    Calls Try.prog 7 #[.slice A n c, .int .u8 (at_.toNat : Int)] w fun e w' => e = .returned (.bool true) ∧ Below w.heap.size w w' := by
  have hbl := lib_hid hb.len
  have HS := lib_hid hb
  have hcap := hb.max
  unfold maxLen at hcap
  have hnc := hb.cap
  clear hb
  by_cases hbig : 8 < n
  · have h1 : (8 : Int) < n := by omega
    clear hbig
    go_enter Try.func7, Try.ntmps7
    go_wp2
    go_ret
    exact ⟨rfl, Grows.refl w⟩
  have h1 : ¬ (8 : Int) < n := by omega
  by_cases h0 : n = 0
  · subst h0
    clear hbig h1
    go_enter Try.func7, Try.ntmps7
    go_wp2
    go_ret
    exact ⟨rfl, Grows.refl w⟩
  have h2 : ¬ (n : Int) = 0 := by omega
  have hd2 : ((n : Int) == 0) = false := by simpa using h2
  obtain ⟨k, hk, hk64⟩ : ∃ k : Nat, (at_.toNat : Int).tmod 64 = (k : Int) ∧ k < 64 := ⟨at_.toNat % 64, by rw [Int.tmod_eq_emod_of_nonneg (by omega)]; omega, by omega⟩
  have hkb : (k : Int) < 64 := by omega
  have hat : (at_.toNat : Int) < 256 := by have := at_.toNat_lt; omega
  obtain ⟨z, hz⟩ : ∃ z, bs[n - 1]? = some z := ⟨_, List.getElem?_eq_getElem (by have := hbl.out; omega)⟩
  obtain ⟨mem, hp1, hp2, hp3⟩ := over_put bs k hk64 bs.length (Nat.le_refl _)
  have hmz : mem[k]? = some z := by rw [hp3 (n - 1) (by have := hbl.out; omega)]; exact hz
  obtain ⟨l, Hl⟩ : ∃ l, Hid (List.replicate n ((k : Int), (1 : Int)) = l) := ⟨_, lib_hid rfl⟩
  have HE : Hid (doesE 1 64 0 l = 0) := by unfold Hid; rw [← Hl.out]; exact over_E n k (by omega) hk64
  have HSE : Hid (scatE 1 64 0 l bs = 0) := by unfold Hid scatE; rw [HE.out, if_pos rfl, ← Hl.out, over_room, hbl.out, if_neg (by omega)]
  have HSM : Hid (scatM (List.replicate (1 * 64) 0) 1 64 0 l bs = mem) := by
    unfold Hid scatM
    rw [HSE.out, if_pos rfl, ← Hl.out, ← hbl.out]
    show (putT (List.replicate 64 0) 0 bs _).1 = _
    rw [List.take_of_length_le (by simp)] at hp1
    rw [hp1]
  have HGB : Hid (gathB mem 1 64 0 l = List.replicate n z) := by
    unfold Hid gathB; rw [HE.out, if_pos rfl, ← Hl.out]; exact gath_rep mem k z hmz n
  have HRB : Hid (gathB mem 1 64 0 [((k : Int), (1 : Int))] = [z] ∧ doesE 1 64 0 [((k : Int), (1 : Int))] = 0) := by
    have hE : doesE 1 64 0 [((k : Int), (1 : Int))] = 0 := over_E 1 k (by omega) hk64
    refine ⟨?_, hE⟩
    unfold gathB; rw [hE, if_pos rfl]; exact gath_rep mem k z hmz 1
  have Hwf : Hid (∀ p ∈ l, I64 p.1 ∧ I64 p.2) := fun p hp => by
    rw [← Hl.out] at hp
    rw [(List.mem_replicate.1 hp).2]
    exact ⟨I64k k (by omega), by unfold I64; simp only; omega⟩
  have Hll : Hid (l.length = n) := by unfold Hid; rw [← Hl.out]; simp
  have HN := lib_hid (new_any 1 64 w (by decide) (by decide) (by decide) (by decide))
  have HSc : Hid (∀ (g m : Nat) (W : World) (B : Option Addr) (cc : Nat), ArS W g m 1 64 (List.replicate (1 * 64) 0) → SpanR W B n cc l → SB W A n c bs → (∀ p, B = some p → p.block ≠ m) →
      Calls Try.prog 24 #[.pointer (some ⟨g, 0, none⟩), .int .i64 0, .slice B n cc, .slice A n c] W (ScatR W g m 1 64 mem 0)) := fun g m W B cc h1 h2 h3 h4 => by
    have := scatter_any W g m 1 64 _ 0 l B n cc bs A n c h1 (by decide) (by decide) (by decide) (by decide) h2 Hwf.out h4 h3 (by omega)
    rw [HSE.out, HSM.out] at this
    exact this
  have HRe : Hid (∀ (g m : Nat) (W : World), ArS W g m 1 64 mem → Calls Try.prog 25 #[.pointer (some ⟨g, 0, none⟩), .int .i64 0, .int .i64 (k : Int), .int .i64 1] W (GathR W 0 [z])) := fun g m W h => by
    have := read_any W g m 1 64 mem 0 k 1 h (by decide) (by decide) (by decide) (by decide) ⟨I64k k (by omega), by decide⟩
    rw [HRB.out.1, HRB.out.2] at this
    exact this
  have HGa : Hid (∀ (g m : Nat) (W : World) (B : Option Addr) (cc : Nat), ArS W g m 1 64 mem → SpanR W B n cc l → Calls Try.prog 26 #[.pointer (some ⟨g, 0, none⟩), .int .i64 0, .slice B n cc] W (GathR W 0 (List.replicate n z))) := fun g m W B cc h1 h2 => by
    have := gather_any W g m 1 64 mem 0 l B n cc h1 (by decide) (by decide) (by decide) (by decide) h2 Hwf.out
    rw [HE.out, HGB.out] at this
    exact this
  have Hz := lib_hid hz
  have Hn8 : Hid (n ≤ 8) := by unfold Hid; omega
  have Hn0 : Hid (0 < n) := by unfold Hid; omega
  clear hp1 hp2 hp3 hmz hz h0 hbig
  go_enter Try.func7, Try.ntmps7
  go_wp2_with fail
  refine HN.out.mono ?_
  rintro e w1 ⟨g, m, rfl, hg, hm, hg1, har⟩
  have Har := lib_hid har
  have Hgm := lib_hid (And.intro hg hm)
  have Hmw := lib_hid har.by_.lt
  have Hg1 := lib_hid hg1
  clear hg hm har hg1 HN h1 h2 hd2 hk
  go_wp2
  go_loopw [8, 9] (fun v i wr => ∃ (j : Nat) (C : Option Addr) (e : Nat), j ≤ n ∧ i = .int .i64 j ∧ v = .slice C j e ∧ Grows w1 wr ∧ Hid (wr.ownsRow w1.heap.size 28 2 (.slice C j e) j (flat (l.take j)))) (fun _ i _ => n - (intOf i).toNat)
  case atStart => exact ⟨0, none, 0, Nat.zero_le _, rfl, rfl, Grows.refl w1, lib_hid (by rw [List.take_zero]; exact World.ownsRow_nil _ _ _ _)⟩
  case round =>
    obtain ⟨j, C, e, hj, rfl, rfl, hgr, HO⟩ := hrel
    by_cases hlt : j < n
    · have hji : (j : Int) < n := by omega
      have Htk : Hid (l.take (j + 1) = l.take j ++ [((k : Int), (1 : Int))]) := by
        unfold Hid
        rw [List.take_add_one, ← Hl.out, List.getElem?_replicate, if_pos hlt]
        rfl
      have HO1 := lib_hid (own_grows HO.out ((Grows.refl wr).alloc (.cells #[iV (k : Int), iV 1] 28)))
      have HG := lib_hid (Blk.new wr 28 #[iV (k : Int), iV 1])
      have Hz1 : Hid (w1.heap.size ≤ (wr.alloc (.cells #[iV (k : Int), iV 1] 28)).heap.size) := by have := hgr.le; unfold Hid; simp; omega
      have Hgr := lib_hid hgr
      have hn8 : n ≤ 8 := Hn8.out
      clear HO hgr
      go_wp2_with (at_builtin; refine wpList_append_pair (by kernel_rfl) _ _ 24 rfl w1.heap.size 28 (.agg #[.int .i64 0, .int .i64 0]) 16 Try.underlying24 Try.info28 rfl _ j e (l.take j) rfl HO1.out wr.heap.size 28 (k : Int) 1 rfl HG.out (by omega) (by omega) Hz1.out ?_; intro A4 c4 w4 ho4 hb4 hg4)
      have hgr4 : Grows w1 w4 := Below.trans (Hgr.out.alloc _) hb4
      have HO4 : Hid (w4.ownsRow w1.heap.size 28 2 (.slice A4 (j + 1) c4) (j + 1) (flat (l.take (j + 1)))) := by
        unfold Hid; rw [Htk.out]; exact ho4
      clear ho4 hb4 hg4 HO1
      go_roundw
      case rel => exact ⟨j + 1, A4, c4, by omega, by go_num, rfl, hgr4, HO4⟩
      case measure => simp [intOf]; omega
    · have hji : ¬ (j : Int) < n := by omega
      have hjn : j = n := by omega
      subst hjn
      have ho := HO.out
      rw [show l.take j = l by rw [List.take_of_length_le]; rw [Hll.out]; exact Nat.le_refl _] at ho
      obtain ⟨C', e', ev, hsp, hbase⟩ := own2_form ho
      cases ev
      have HSp := lib_hid hsp
      have Hbase : Hid (∀ p, C = some p → p.block ≠ m) := fun p hp => by have := hbase p hp; have := Hmw.out; omega
      have Hg0r := lib_hid (Hg1.out.trans hgr)
      have Harr := lib_hid (Har.out.grows hgr)
      have HC1 := lib_hid (HSc.out g m wr C e Harr.out HSp.out (HS.out.grows Hg0r.out) Hbase.out)
      clear ho hsp hbase HO hlt hj hgr
      go_wp2_with fail
      refine HC1.out.mono ?_
      rintro e2 w2 ⟨rfl, hk2, har2⟩
      have Har2 := lib_hid har2
      have Hk2 := lib_hid hk2
      have HSp2 := lib_hid (HSp.out.keeps hk2 (fun p hp => Hbase.out p hp))
      have Hg2 : Hid (Grows w w2) := by
        have : Keeps (fun k => w.heap.size ≤ k) w w2 := (Hg0r.out.keeps _).trans hk2 (fun i hi hlt => by subst hi; exact Hgm.out.2)
        exact this.grows (fun i hi => hi)
      clear har2 hk2 HC1
      go_wp2_with fail
      refine (HRe.out g m _ Har2.out).mono ?_
      rintro e3 w3 ⟨A3, n3, c3, rfl, hn3, hg3, hs3⟩
      have Hn3 : Hid (n3 = 1) := hn3.out
      have HS3 := lib_hid hs3
      have Hg3 := lib_hid hg3
      have HC3 := lib_hid (HGa.out g m w3 C e (Har2.out.grows hg3) (HSp2.out.grows hg3))
      clear hs3 hg3 hn3
      go_wp2_with fail
      refine HC3.out.mono ?_
      rintro e4 w4 ⟨A4, n4, c4, rfl, hn4, hg4, hs4⟩
      have hn4j : n4 = j := by have := hn4.out; simpa using this
      subst hn4j
      have HS4 := lib_hid hs4
      have HS3' := lib_hid (HS3.out.grows hg4)
      have Hg4 := lib_hid ((Hg2.out.trans Hg3.out).trans hg4)
      have HSb := lib_hid (HS.out.grows Hg4.out)
      obtain ⟨n1, hn1, Hs⟩ : ∃ n1 : Nat, Hid (n1 + 1 = n4) ∧ Hid ((n4 : Int) - 1 = (n1 : Int)) := ⟨n4 - 1, by have := Hn0.out; unfold Hid; omega, by have := Hn0.out; unfold Hid; omega⟩
      obtain ⟨bb, ob, rfl, hbb, hcb⟩ := HSb.out.2.2.2.2 (by have := hn1.out; omega)
      obtain ⟨b4, o4, rfl, hb4, hc4⟩ := HS4.out.2.2.2.2 (by have := hn1.out; omega)
      obtain ⟨b3, o3, rfl, hb3, hc3⟩ := HS3'.out.2.2.2.2 (by have := Hn3.out; omega)
      have HCb : Hid (∀ W, Grows w4 W → W.cell? ⟨bb, ob + n1, none⟩ = some (.int .u8 (z.toNat : Int))) := fun W hW => by
        rw [hW.cell (p := ⟨bb, ob + n1, none⟩) hbb, hcb n1 (by have := hn1.out; omega), List.getElem?_map]
        have := Hz.out
        rw [show n4 - 1 = n1 by have := hn1.out; omega] at this
        rw [this]; rfl
      have HC4 : Hid (∀ i, i < n4 → ∀ W, Grows w4 W → W.cell? ⟨b4, o4 + i, none⟩ = some (.int .u8 (z.toNat : Int))) := fun i hi W hW => by
        rw [hW.cell (p := ⟨b4, o4 + i, none⟩) hb4, hc4 i hi, List.getElem?_map, List.getElem?_replicate, if_pos hi]; rfl
      have HC3' : Hid (∀ W, Grows w4 W → W.cell? ⟨b3, o3, none⟩ = some (.int .u8 (z.toNat : Int))) := fun W hW => by
        rw [hW.cell (p := ⟨b3, o3, none⟩) hb3]
        have := hc3 0 (by have := Hn3.out; omega)
        rw [Nat.add_zero] at this
        rw [this]; rfl
      have hn1b : (n1 : Int) < n4 := by have := hn1.out; omega
      have hc4max := HS4.out.max
      unfold maxLen at hc4max
      have hc4n := HS4.out.cap
      have hc3n := HS3'.out.cap
      have hn3i : (n3 : Int) = 1 := by have := Hn3.out; omega
      clear hs4 hg4 hn4 hbb hb4 hb3 hcb hc4 hc3 HC3 hji
      go_wp2
      go_loopw [15] (fun i wr => ∃ i' : Nat, i' ≤ n4 ∧ i = .int .i64 i' ∧ Grows w4 wr) (fun i _ => n4 - (intOf i).toNat)
      case atStart => exact ⟨0, Nat.zero_le _, rfl, Grows.refl w4⟩
      case round =>
        obtain ⟨i, hi, rfl, hgr⟩ := hrel
        by_cases hlt : i < n4
        · have hii : (i : Int) < n4 := by omega
          have HC : Hid (∀ W, Grows wr W → W.cell? ⟨b4, o4 + i, none⟩ = some (.int .u8 (z.toNat : Int)) ∧ W.cell? ⟨bb, ob + n1, none⟩ = some (.int .u8 (z.toNat : Int))) := fun W hW => ⟨HC4.out i hlt W (hgr.trans hW), HCb.out W (hgr.trans hW)⟩
          go_upto_region 18 with fail
          apply wp_region_mono 11 ((.is _, []) :: (.is _, []) :: (.is _, []) :: (.is _, []) :: (.is _, []) :: (.is _, []) :: (.is _, []) :: (.is _, []) :: (.is _, []) :: (.is _, []) :: (.is (.bool false), []) :: []) (by kernel_rfl) (by kernel_rfl)
          iterate 3
            apply Mono.is0
            · kernel_rfl
            · intro W hW
              go_wp2
              refine ⟨rfl, rfl, Grows.refl _, ?_⟩
              unfold Oper.valAt
              go_simp
              rfl
            intro k1 a1 hk1 ha1
            simp only [Nat.reduceAdd] at hk1
            simp only [Act.put, List.setIfInBounds_toArray, List.set_cons_succ, List.set_cons_zero] at ha1
            subst hk1 ha1
          apply Mono.is0
          · kernel_rfl
          · intro W hW
            obtain ⟨q1, q2⟩ := HC.out W hW
            go_wp2
            refine ⟨rfl, rfl, Grows.refl _, ?_⟩
            unfold Oper.valAt
            go_simp
            rfl
          intro k1 a1 hk1 ha1
          simp only [Nat.reduceAdd] at hk1
          simp only [Act.put, List.setIfInBounds_toArray, List.set_cons_succ, List.set_cons_zero] at ha1
          subst hk1 ha1
          iterate 3
            apply Mono.is0
            · kernel_rfl
            · intro W hW
              go_wp2
              refine ⟨rfl, rfl, Grows.refl _, ?_⟩
              unfold Oper.valAt
              go_simp
              rfl
            intro k1 a1 hk1 ha1
            simp only [Nat.reduceAdd] at hk1
            simp only [Act.put, List.setIfInBounds_toArray, List.set_cons_succ, List.set_cons_zero] at ha1
            subst hk1 ha1
          apply Mono.is0
          · kernel_rfl
          · intro W hW
            have hs := Hs.out
            go_wp2
            refine ⟨rfl, rfl, Grows.refl _, ?_⟩
            unfold Oper.valAt
            go_simp
            rfl
          intro k1 a1 hk1 ha1
          simp only [Nat.reduceAdd] at hk1
          simp only [Act.put, List.setIfInBounds_toArray, List.set_cons_succ, List.set_cons_zero] at ha1
          subst hk1 ha1
          apply Mono.is0
          · kernel_rfl
          · intro W hW
            go_wp2
            refine ⟨rfl, rfl, Grows.refl _, ?_⟩
            unfold Oper.valAt
            go_simp
            rfl
          intro k1 a1 hk1 ha1
          simp only [Nat.reduceAdd] at hk1
          simp only [Act.put, List.setIfInBounds_toArray, List.set_cons_succ, List.set_cons_zero] at ha1
          subst hk1 ha1
          apply Mono.is0
          · kernel_rfl
          · intro W hW
            obtain ⟨q1, q2⟩ := HC.out W hW
            go_wp2
            refine ⟨rfl, rfl, Grows.refl _, ?_⟩
            unfold Oper.valAt
            go_simp
            rfl
          intro k1 a1 hk1 ha1
          simp only [Nat.reduceAdd] at hk1
          simp only [Act.put, List.setIfInBounds_toArray, List.set_cons_succ, List.set_cons_zero] at ha1
          subst hk1 ha1
          apply Mono.is0
          · kernel_rfl
          · intro W hW 
            go_wp2
            refine ⟨rfl, rfl, Grows.refl _, ?_⟩
            unfold Oper.valAt
            go_simp
          intro k1 a1 hk1 ha1
          simp only [Nat.reduceAdd] at hk1
          simp only [Act.put, List.setIfInBounds_toArray, List.set_cons_succ, List.set_cons_zero] at ha1
          subst hk1 ha1
          refine Mono.done ?_
          intro wm hgm
          simp only [allF, List.drop_succ_cons, List.drop_nil]
          have hgr2 := hgr.trans hgm
          clear HC hgm hgr
          go_wp2
          go_roundw
          case rel => exact ⟨i + 1, by omega, by go_num, hgr2⟩
          case measure => simp [intOf]; omega
        · have hii : ¬ (i : Int) < n4 := by omega
          have HC : Hid (∀ W, Grows wr W → W.cell? ⟨b3, o3, none⟩ = some (.int .u8 (z.toNat : Int)) ∧ W.cell? ⟨bb, ob + n1, none⟩ = some (.int .u8 (z.toNat : Int))) := fun W hW => ⟨HC3'.out W (hgr.trans hW), HCb.out W (hgr.trans hW)⟩
          go_upto_region 20 with fail
          clear hii hlt
          apply wp_region_mono 14 ((.is _, []) :: (.is _, []) :: (.is _, []) :: (.is _, []) :: (.is _, []) :: (.is _, []) :: (.is _, []) :: (.is _, []) :: (.is _, []) :: (.is (.bool true), []) :: (.is _, []) :: (.is (.bool true), []) :: (.is _, []) :: (.is _, []) :: []) (by kernel_rfl) (by kernel_rfl)
          iterate 2
            apply Mono.is0
            · kernel_rfl
            · intro W hW
              go_wp2
              refine ⟨rfl, rfl, Grows.refl _, ?_⟩
              unfold Oper.valAt
              go_simp
              rfl
            intro k1 a1 hk1 ha1
            simp only [Nat.reduceAdd] at hk1
            simp only [Act.put, List.setIfInBounds_toArray, List.set_cons_succ, List.set_cons_zero] at ha1
            subst hk1 ha1
          apply Mono.is0
          · kernel_rfl
          · intro W hW
            obtain ⟨q1, q2⟩ := HC.out W hW
            go_wp2
            refine ⟨rfl, rfl, Grows.refl _, ?_⟩
            unfold Oper.valAt
            go_simp
            rfl
          intro k1 a1 hk1 ha1
          simp only [Nat.reduceAdd] at hk1
          simp only [Act.put, List.setIfInBounds_toArray, List.set_cons_succ, List.set_cons_zero] at ha1
          subst hk1 ha1
          iterate 3
            apply Mono.is0
            · kernel_rfl
            · intro W hW
              go_wp2
              refine ⟨rfl, rfl, Grows.refl _, ?_⟩
              unfold Oper.valAt
              go_simp
              rfl
            intro k1 a1 hk1 ha1
            simp only [Nat.reduceAdd] at hk1
            simp only [Act.put, List.setIfInBounds_toArray, List.set_cons_succ, List.set_cons_zero] at ha1
            subst hk1 ha1
          apply Mono.is0
          · kernel_rfl
          · intro W hW
            have hs := Hs.out
            go_wp2
            refine ⟨rfl, rfl, Grows.refl _, ?_⟩
            unfold Oper.valAt
            go_simp
            rfl
          intro k1 a1 hk1 ha1
          simp only [Nat.reduceAdd] at hk1
          simp only [Act.put, List.setIfInBounds_toArray, List.set_cons_succ, List.set_cons_zero] at ha1
          subst hk1 ha1
          apply Mono.is0
          · kernel_rfl
          · intro W hW
            go_wp2
            refine ⟨rfl, rfl, Grows.refl _, ?_⟩
            unfold Oper.valAt
            go_simp
            rfl
          intro k1 a1 hk1 ha1
          simp only [Nat.reduceAdd] at hk1
          simp only [Act.put, List.setIfInBounds_toArray, List.set_cons_succ, List.set_cons_zero] at ha1
          subst hk1 ha1
          apply Mono.is0
          · kernel_rfl
          · intro W hW
            obtain ⟨q1, q2⟩ := HC.out W hW
            go_wp2
            refine ⟨rfl, rfl, Grows.refl _, ?_⟩
            unfold Oper.valAt
            go_simp
            rfl
          intro k1 a1 hk1 ha1
          simp only [Nat.reduceAdd] at hk1
          simp only [Act.put, List.setIfInBounds_toArray, List.set_cons_succ, List.set_cons_zero] at ha1
          subst hk1 ha1
          apply Mono.is0
          · kernel_rfl
          · intro W hW 
            go_wp2
            refine ⟨rfl, rfl, Grows.refl _, ?_⟩
            unfold Oper.valAt
            go_simp
          intro k1 a1 hk1 ha1
          simp only [Nat.reduceAdd] at hk1
          simp only [Act.put, List.setIfInBounds_toArray, List.set_cons_succ, List.set_cons_zero] at ha1
          subst hk1 ha1
          apply Mono.is0
          · kernel_rfl
          · intro W hW
            go_wp2
            refine ⟨rfl, rfl, Grows.refl _, ?_⟩
            unfold Oper.valAt
            go_simp
            rfl
          intro k1 a1 hk1 ha1
          simp only [Nat.reduceAdd] at hk1
          simp only [Act.put, List.setIfInBounds_toArray, List.set_cons_succ, List.set_cons_zero] at ha1
          subst hk1 ha1
          apply Mono.is0
          · kernel_rfl
          · intro W hW 
            go_wp2_with fail
            refine (awake16_any W).mono ?_
            rintro e w1 ⟨rfl, hg1⟩
            go_wp2
            exact ⟨rfl, rfl, hg1, rfl⟩
          intro k1 a1 hk1 ha1
          simp only [Nat.reduceAdd] at hk1
          simp only [Act.put, List.setIfInBounds_toArray, List.set_cons_succ, List.set_cons_zero] at ha1
          subst hk1 ha1
          iterate 2
            apply Mono.is0
            · kernel_rfl
            · intro W hW
              go_wp2
              refine ⟨rfl, rfl, Grows.refl _, ?_⟩
              unfold Oper.valAt
              go_simp
              rfl
            intro k1 a1 hk1 ha1
            simp only [Nat.reduceAdd] at hk1
            simp only [Act.put, List.setIfInBounds_toArray, List.set_cons_succ, List.set_cons_zero] at ha1
            subst hk1 ha1
          refine Mono.done ?_
          intro wm hgm
          simp only [allF, List.drop_succ_cons, List.drop_nil]
          have hgf := (Hg4.out.trans hgr).trans hgm
          go_wp2
          go_ret
          exact ⟨rfl, hgf⟩

end Go.Proofs.Ytbmmjkpibnnmeaa
