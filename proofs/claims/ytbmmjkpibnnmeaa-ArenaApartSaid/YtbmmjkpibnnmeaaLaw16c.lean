/-
  The walk of ArenaApart.
-/
import Derived.Test.YtbmmjkpibnnmeaaOpenActs
import Derived.Test.YtbmmjkpibnnmeaaLaw16b
import Derived.Deep.Cut
import Derived.Outline
namespace Go.Proofs.Ytbmmjkpibnnmeaa
open Go Go.RowKit
set_option linter.unusedSimpArgs false


theorem splice_out {xs ys : List UInt8} {k i : Nat} (h : k + ys.length ≤ xs.length) (hi : i < k ∨ k + ys.length ≤ i) : (splice xs k ys)[i]? = xs[i]? := by
  unfold splice
  have e : (xs.take k).length = k := by rw [List.length_take]; omega
  rcases hi with hi | hi
  · rw [List.getElem?_append_left (by omega), List.getElem?_take, if_pos hi]
  · rw [List.getElem?_append_right (by omega), List.getElem?_append_right (by omega), List.getElem?_drop, e]
    congr 1
    omega
theorem put_out {lo wd : Nat} {l : List (Int × Int)} (hf : ∀ p ∈ l, 0 ≤ p.1 ∧ 0 ≤ p.2 ∧ p.1 ≤ wd ∧ p.2 ≤ wd - p.1) : ∀ (st : List UInt8 × List UInt8), lo + wd ≤ st.1.length →
    (l.foldl (putStep lo) st).1.length = st.1.length ∧ ∀ i, i < lo ∨ lo + wd ≤ i → (l.foldl (putStep lo) st).1[i]? = st.1[i]? := by
  induction l with
  | nil => intro st _; exact ⟨rfl, fun i _ => rfl⟩
  | cons p l ih =>
    intro st hlo
    rw [List.foldl_cons]
    have hp := hf p (by simp)
    have ht : (st.2.take p.2.toNat).length ≤ p.2.toNat := List.length_take_le _ _
    have hfit : lo + p.1.toNat + (st.2.take p.2.toNat).length ≤ st.1.length := by omega
    have hl : (putStep lo st p).1.length = st.1.length := by unfold putStep; exact splice_len _ _ _ hfit
    obtain ⟨h1, h2⟩ := ih (fun q hq => hf q (by simp [hq])) (putStep lo st p) (by omega)
    refine ⟨h1.trans hl, fun i hi => (h2 i hi).trans ?_⟩
    unfold putStep
    exact splice_out hfit (by omega)
/-- A window of the arena. -/
def winF (mem : List UInt8) (wd c : Nat) : List UInt8 := (mem.drop (c * wd)).take wd
theorem win_ext {mem mem' : List UInt8} {wd c : Nat} (h : ∀ i, c * wd ≤ i → i < c * wd + wd → mem'[i]? = mem[i]?) : winF mem' wd c = winF mem wd c := by
  unfold winF
  apply List.ext_getElem?
  intro i
  rw [List.getElem?_take, List.getElem?_take]
  split
  · rw [List.getElem?_drop, List.getElem?_drop]; exact h _ (by omega) (by omega)
  · rfl
theorem apart_win {wd c d : Nat} (h : c ≠ d) {i : Nat} (h1 : c * wd ≤ i) (h2 : i < c * wd + wd) : i < d * wd ∨ d * wd + wd ≤ i := by
  rcases Nat.lt_or_gt_of_ne h with h | h
  · left
    have : (c + 1) * wd ≤ d * wd := Nat.mul_le_mul_right _ h
    rw [Nat.add_mul, Nat.one_mul] at this
    omega
  · right
    have : (d + 1) * wd ≤ c * wd := Nat.mul_le_mul_right _ h
    rw [Nat.add_mul, Nat.one_mul] at this
    omega
theorem scat_win {mem : List UInt8} {nC wd c : Nat} {d : Int} {l : List (Int × Int)} {b : List UInt8} (hm : mem.length = nC * wd) (h : (c : Int) ≠ d) :
    (scatM mem nC wd d l b).length = nC * wd ∧ winF (scatM mem nC wd d l b) wd c = winF mem wd c := by
  unfold scatM
  split
  · rename_i hE
    have hE0 : doesE nC wd d l = 0 := by
      unfold scatE at hE
      split at hE
      · assumption
      · rename_i h0; exact absurd hE h0
    obtain ⟨hr, hc⟩ := does_in hE0
    have hin := window_in (wd := wd) hr.1 hr.2
    obtain ⟨h1, h2⟩ := put_out (lo := d.toNat * wd) (chkE_fit hc).2 (mem, b) (by rw [hm]; exact hin)
    exact ⟨h1.trans hm, win_ext fun i ha hb => h2 i (apart_win (by omega) ha hb)⟩
  · exact ⟨hm, rfl⟩
theorem wipe_win {mem : List UInt8} {nC wd c : Nat} {d : Int} (hm : mem.length = nC * wd) (h : (c : Int) ≠ d) : (wipeM mem nC wd d).length = nC * wd ∧ winF (wipeM mem nC wd d) wd c = winF mem wd c := by
  unfold wipeM
  split
  · rename_i hr
    have hin := window_in (wd := wd) hr.1 hr.2
    exact ⟨(splice_len _ _ _ (by rw [List.length_replicate, hm]; exact hin)).trans hm, win_ext fun i ha hb => splice_out (by rw [List.length_replicate, hm]; exact hin) (by rw [List.length_replicate]; exact apart_win (by omega) ha hb)⟩
  · exact ⟨hm, rfl⟩
theorem win_start {c : Nat} {b : List UInt8} (hc : c < 8) (hb : b.length ≤ 100) : winF (splice (List.replicate (8 * 100) 0) (c * 100 + 0) b) 100 c = b ++ List.replicate (100 - b.length) 0 := by
  unfold winF splice
  have e : ((List.replicate (8 * 100) (0 : UInt8)).take (c * 100 + 0)).length = c * 100 := by rw [List.length_take, List.length_replicate]; omega
  rw [List.drop_append, List.drop_of_length_le (by rw [e]; exact Nat.le_refl _), List.nil_append, e, Nat.sub_self, List.drop_zero, List.take_append, List.take_of_length_le hb, List.drop_replicate, List.take_replicate]
  congr 2
  omega
def lightB (l : List ActD) : Bool := decide (l.length ≤ 60) && l.all fun a => decide (a.nb ≤ 300) && decide (a.nl ≤ 12)
theorem light_yes {l : List ActD} (h : lightB l = true) : l.length ≤ 60 ∧ ∀ a ∈ l, a.nb ≤ 300 ∧ a.nl ≤ 12 := by
  unfold lightB at h
  simp only [Bool.and_eq_true, decide_eq_true_eq, List.all_eq_true] at h
  exact ⟨h.1, fun a ha => h.2 a ha⟩
theorem light_no {l : List ActD} {k : Nat} {a : ActD} (h : l[k]? = some a) (ha : ¬ (a.nb ≤ 300 ∧ a.nl ≤ 12)) : lightB l = false := by
  unfold lightB
  rw [Bool.and_eq_false_iff]
  right
  rw [List.all_eq_false]
  exact ⟨a, List.mem_of_getElem? h, by simpa using ha⟩
theorem ActsR.at {w : World} {A : Option Addr} {n c : Nat} {l : List ActD} (h : ActsR w A n c l) {k : Nat} (hk : k < n) : ∃ b off a, A = some ⟨b, off, none⟩ ∧ b < w.heap.size ∧ l[k]? = some a ∧ ActOk w a ∧
    ∀ W, Grows w W → W.cell? ⟨b, off + k * 6, none⟩ = some (.int .i64 a.x0) ∧ W.cell? ⟨b, off + k * 6 + 1, none⟩ = some (.int .i64 a.x1) ∧ W.cell? ⟨b, off + k * 6 + 2, none⟩ = some (.int .i64 a.x2) ∧ W.cell? ⟨b, off + k * 6 + 3, none⟩ = some (.int .i64 a.x3) ∧
    W.cell? ⟨b, off + k * 6 + 4, none⟩ = some (.slice a.B a.nb a.cb) ∧ W.cell? ⟨b, off + k * 6 + 5, none⟩ = some (.slice a.L a.nl a.cl) := by
  obtain ⟨hl, _, _, _, hok, hat⟩ := h
  obtain ⟨b, off, e, hb, hc⟩ := hat (by omega)
  have hj := List.getElem?_eq_getElem (l := l) (i := k) (by omega)
  refine ⟨b, off, _, e, hb, hj, hok _ (List.mem_of_getElem? hj), fun W hW => ?_⟩
  obtain ⟨h0, h1, h2, h3, h4, h5⟩ := hc k _ hj
  exact ⟨(hW.cell (p := ⟨b, _, none⟩) hb).trans h0, (hW.cell (p := ⟨b, _, none⟩) hb).trans h1, (hW.cell (p := ⟨b, _, none⟩) hb).trans h2, (hW.cell (p := ⟨b, _, none⟩) hb).trans h3, (hW.cell (p := ⟨b, _, none⟩) hb).trans h4, (hW.cell (p := ⟨b, _, none⟩) hb).trans h5⟩

set_option maxRecDepth 100000 in
set_option maxHeartbeats 4000000 in
theorem light_any (l : List ActD) (A : Option Addr) (n c : Nat) (w : World) (hs : ActsR w A n c l) :
    Calls Try.prog 29 #[.slice A n c] w fun e w' => e = .returned (.bool (lightB l)) ∧ w = w' := by
  have HS := lib_hid hs
  have hll : Hid (l.length = n) := hs.1
  have hcap := hs.2.2.1
  unfold maxLen at hcap
  have hnc := hs.2.1
  clear hs
  by_cases hbig : 60 < n
  · have hb : (60 : Int) < n := by omega
    have Hno : Hid (lightB l = false) := by unfold Hid lightB; rw [decide_eq_false (by rw [hll.out]; omega), Bool.false_and]
    clear hbig
    go_enter Try.func29, Try.ntmps29
    go_wp2
    go_ret
    exact ⟨by rw [Hno.out]; rfl, rfl⟩
  have hb : ¬ (60 : Int) < n := by omega
  have Hb := lib_hid (Nat.not_lt.1 hbig)
  clear hbig
  go_enter Try.func29, Try.ntmps29
  go_wp2
  clear hb
  go_loop [3] (fun i => ∃ k : Nat, k ≤ n ∧ i = .int .i64 k ∧ Hid (∀ a ∈ l.take k, a.nb ≤ 300 ∧ a.nl ≤ 12)) (fun i => n - (intOf i).toNat)
  case atStart => exact ⟨0, Nat.zero_le _, rfl, lib_hid (by intro p hp; simp at hp)⟩
  case round =>
    obtain ⟨k, hk, rfl, HK⟩ := hrel
    by_cases hlt : k < n
    · have hki : (k : Int) < n := by omega
      obtain ⟨b, off, a, rfl, hb, hxy, hok, hcs⟩ := HS.out.at hlt
      have Hxy := lib_hid hxy
      obtain ⟨_, _, _, _, h4, h5⟩ := hcs w (Grows.refl w)
      clear hxy hb hok hcs
      by_cases h1 : 300 < a.nb
      · have h1i : (300 : Int) < a.nb := by omega
        have Hno : Hid (lightB l = false) := light_no Hxy.out (by omega)
        clear h1
        go_wp2
        go_ret
        exact ⟨by rw [Hno.out]; rfl, rfl⟩
      have h1i : ¬ (300 : Int) < a.nb := by omega
      by_cases h2 : 12 < a.nl
      · have h2i : (12 : Int) < a.nl := by omega
        have Hno : Hid (lightB l = false) := light_no Hxy.out (by omega)
        clear h1 h2
        go_wp2
        go_ret
        exact ⟨by rw [Hno.out]; rfl, rfl⟩
      have h2i : ¬ (12 : Int) < a.nl := by omega
      have HK2 : Hid (∀ a ∈ l.take (k + 1), a.nb ≤ 300 ∧ a.nl ≤ 12) := take_ext Hxy.out HK.out ⟨by omega, by omega⟩
      clear HK h1 h2
      go_wp2
      go_round
      case rel => exact ⟨k + 1, by omega, by go_num, HK2⟩
      case measure => simp [intOf]; omega
    · have hki : ¬ (k : Int) < n := by omega
      have hkn : k = n := by omega
      have Hyes : Hid (lightB l = true) := by
        unfold Hid lightB
        have := HK.out
        rw [List.take_of_length_le (by rw [hll.out, hkn]; exact Nat.le_refl _)] at this
        rw [decide_eq_true (by rw [hll.out]; exact Hb.out), Bool.true_and, List.all_eq_true]
        intro a ha
        simpa using this a ha
      clear HK hkn
      go_wp2
      go_ret
      exact ⟨by rw [Hyes.out]; rfl, rfl⟩

set_option maxRecDepth 100000 in
set_option maxHeartbeats 4000000 in
theorem walk_ArenaApart (A : Option Addr) (n c : Nat) (l : List ActD) (own : UInt8) (B : Option Addr) (nb cb : Nat) (bs : List UInt8) (w : World) (hs : ActsR w A n c l) (hb : SB w B nb cb bs) :
    Calls Try.prog 9 #[.slice A n c, .int .u8 (own.toNat : Int), .slice B nb cb] w fun e w' => e = .returned (.bool true) ∧ Below w.heap.size w w' := by
  have HS := lib_hid hs
  have HSb := lib_hid hb
  have hbl := lib_hid hb.len
  have hll : Hid (l.length = n) := hs.1
  have hcap := hs.2.2.1
  have hcapb := hb.max
  unfold maxLen at hcap hcapb
  have hnc := hs.2.1
  have hncb := hb.cap
  obtain ⟨r, Hr⟩ : ∃ r, Hid (lightB l = r) := ⟨_, lib_hid rfl⟩
  have Hli : Hid (Calls Try.prog 29 #[.slice A n c] w fun e w' => e = .returned (.bool r) ∧ w = w') := by
    rw [← Hr.out]; exact light_any l A n c w hs
  clear hs hb
  cases r
  · go_enter Try.func9, Try.ntmps9
    go_wp2_with fail
    refine Hli.out.mono ?_
    rintro e w1 ⟨rfl, rfl⟩
    go_wp2
    go_ret
    exact ⟨rfl, Grows.refl w⟩
  by_cases hbig : 100 < nb
  · have h1 : (100 : Int) < nb := by omega
    clear hbig
    go_enter Try.func9, Try.ntmps9
    go_wp2_with fail
    refine Hli.out.mono ?_
    rintro e w1 ⟨rfl, rfl⟩
    go_wp2
    go_ret
    exact ⟨rfl, Grows.refl w⟩
  have h1 : ¬ (100 : Int) < nb := by omega
  have Hnb : Hid (nb ≤ 100) := by unfold Hid; omega
  clear hbig
  obtain ⟨hn60, hfew⟩ := light_yes Hr.out
  have Hfew := lib_hid hfew
  obtain ⟨k, hk, hk8⟩ : ∃ k : Nat, (own.toNat : Int).tmod 8 = (k : Int) ∧ (k : Int) < 8 := ⟨own.toNat % 8, by rw [Int.tmod_eq_emod_of_nonneg (by omega)]; omega, by omega⟩
  have hob : (own.toNat : Int) < 256 := by have := own.toNat_lt; omega
  have Hk8 : Hid (k < 8) := by unfold Hid; omega
  obtain ⟨win, Hwin⟩ : ∃ x, Hid (bs ++ List.replicate (100 - nb) 0 = x) := ⟨_, lib_hid rfl⟩
  have HE : Hid (doesE 8 100 (k : Int) [(0, (nb : Int))] = 0) := by
    have := one_E 8 100 k (by omega) 0 nb (by have := Hnb.out; omega)
    exact this
  have HSE : Hid (scatE 8 100 (k : Int) [(0, (nb : Int))] bs = 0) := by
    unfold Hid scatE
    rw [HE.out, if_pos rfl, hbl.out, if_neg]
    simp [roomF]
  obtain ⟨mem0, Hmem0, Hlen0, Hwin0⟩ : ∃ mem, Hid (scatM (List.replicate (8 * 100) 0) 8 100 (k : Int) [(0, (nb : Int))] bs = mem) ∧ Hid (mem.length = 8 * 100) ∧ Hid (winF mem 100 k = win) := by
    have e : scatM (List.replicate (8 * 100) 0) 8 100 (k : Int) [(0, (nb : Int))] bs = splice (List.replicate (8 * 100) 0) (k * 100 + 0) bs := by
      unfold scatM
      rw [HSE.out, if_pos rfl]
      show splice (List.replicate (8 * 100) 0) ((k : Int).toNat * 100 + (0 : Int).toNat) (bs.take (nb : Int).toNat) = _
      rw [Int.toNat_natCast, Int.toNat_natCast, List.take_of_length_le (by rw [hbl.out]; exact Nat.le_refl _)]
      rfl
    refine ⟨_, lib_hid rfl, ?_, ?_⟩
    · unfold Hid; rw [e, splice_len _ _ _ (by rw [hbl.out, List.length_replicate]; have := Hnb.out; have := Hk8.out; omega), List.length_replicate]
    · unfold Hid; rw [e, win_start Hk8.out (by rw [hbl.out]; exact Hnb.out), hbl.out, Hwin.out]
  have HN := lib_hid (new_any 8 100 w (by decide) (by decide) (by decide) (by decide))
  have HWr : Hid (∀ (g m : Nat) (W : World), ArS W g m 8 100 (List.replicate (8 * 100) 0) → SB W B nb cb bs → Calls Try.prog 28 #[.pointer (some ⟨g, 0, none⟩), .int .i64 (k : Int), .int .i64 0, .slice B nb cb] W (ScatR W g m 8 100 mem0 0)) := fun g m W h1 h2 => by
    have := write_any W g m 8 100 _ k 0 bs B nb cb h1 (by decide) (by decide) (by decide) (I64k k (by omega)) (by decide) h2 (by have := Hnb.out; omega)
    rw [HSE.out, Hmem0.out] at this
    exact this
  clear hn60 hfew
  go_enter Try.func9, Try.ntmps9
  go_wp2_with fail
  refine Hli.out.mono ?_
  rintro e w1 ⟨rfl, rfl⟩
  clear Hli
  go_wp2_with fail
  refine HN.out.mono ?_
  rintro e w1 ⟨g, m, rfl, hg, hm, hg1, har⟩
  have Hgm := lib_hid (And.intro hg hm)
  have Hg1 := lib_hid hg1
  have HCw := lib_hid (HWr.out g m w1 har (HSb.out.grows hg1))
  clear hg hm har hg1 HN h1 hk
  go_wp2_with fail
  refine HCw.out.mono ?_
  rintro e w2 ⟨rfl, hk2, har2⟩
  have Har2 := lib_hid har2
  have Hg2 : Hid (Grows w w2) := by
    have : Keeps (fun k => w.heap.size ≤ k) w w2 := (Hg1.out.keeps _).trans hk2 (fun i hi hlt => by subst hi; exact Hgm.out.2)
    exact this.grows (fun i hi => hi)
  clear har2 hk2 HCw
  go_wp2
  go_loopw [10] (fun i wr => ∃ (j : Nat) (mem : List UInt8), j ≤ n ∧ i = .int .i64 j ∧ Hid (Grows w wr) ∧ Hid (ArS wr g m 8 100 mem) ∧ Hid (winF mem 100 k = win)) (fun i _ => n - (intOf i).toNat)
  case atStart => exact ⟨0, mem0, Nat.zero_le _, rfl, Hg2, Har2, Hwin0⟩
  case round =>
    clear Hg2 Har2
    obtain ⟨j, mem, hj, rfl, Hgr, Har, Hw⟩ := hrel
    by_cases hlt : j < n
    · have hji : (j : Int) < n := by omega
      obtain ⟨b, off, a, rfl, hb0, ha, hok, hcs⟩ := HS.out.at hlt
      obtain ⟨i0, i1, i2, i3, hsb, hsl, hwf⟩ := hok
      obtain ⟨f1, f2⟩ := Hfew.out a (List.mem_of_getElem? ha)
      have HCS := lib_hid hcs
      have HC0 : Hid (∀ W, Grows wr W → _) := fun W hW => hcs W (Hgr.out.trans hW)
      have Hi := lib_hid (And.intro i1 i2)
      have HsB := lib_hid hsb
      have HsL := lib_hid hsl
      have Hwf := lib_hid hwf
      have Hf := lib_hid (And.intro f1 f2)
      obtain ⟨q0, q1, q2, q3, q4, q5⟩ := HC0.out wr (Grows.refl wr)
      clear hb0 ha i0 i1 i2 i3 hsb hsl hwf f1 f2 q0 q2 q3 q4 q5
      by_cases hx : a.x1 = (k : Int)
      · rw [hx] at q1
        clear HC0 hcs
        go_wp2
        go_roundw
        case rel => exact ⟨j + 1, mem, by omega, by go_num, Hgr, Har, Hw⟩
        case measure => simp [intOf]; omega
      have hxx : (a.x1 == (k : Int)) = false := by simpa using hx
      have Hx : Hid ((k : Int) ≠ a.x1) := fun e => hx e.symm
      clear hx
      have HC := HC0
      clear HC0 hcs
      go_upto_region 11 with fail
      clear q1 hxx
      apply wp_region_mono 16 ((.is _, []) :: (.is _, []) :: (.is _, []) :: (.is _, []) :: (.is _, []) :: (.is _, []) :: (.is _, []) :: (.is _, []) :: (.is _, []) :: (.is _, []) :: (.is _, []) :: (.is _, []) :: (.is _, []) :: (.is _, []) :: (.is _, []) :: (.is _, []) :: []) (by kernel_rfl) (by kernel_rfl)
      iterate 5
        apply Mono.is0
        · kernel_rfl
        · intro W hW
          go_wp2
          refine ⟨rfl, rfl, Grows.refl _, ?_⟩
          unfold Oper.valAt
          go_simp
          rfl
        intro k1 a1 hk1 ha1
        simp only [Nat.reduceAdd] at hk1
        simp only [Act.put, List.setIfInBounds_toArray, List.set_cons_succ, List.set_cons_zero] at ha1
        subst hk1 ha1
      apply Mono.is0
      · kernel_rfl
      · intro W hW
        obtain ⟨q0, q1, q2, q3, q4, q5⟩ := HC.out W hW
        go_wp2
        refine ⟨rfl, rfl, Grows.refl _, ?_⟩
        unfold Oper.valAt
        go_simp
        rfl
      intro k1 a1 hk1 ha1
      simp only [Nat.reduceAdd] at hk1
      simp only [Act.put, List.setIfInBounds_toArray, List.set_cons_succ, List.set_cons_zero] at ha1
      subst hk1 ha1
      iterate 4
        apply Mono.is0
        · kernel_rfl
        · intro W hW
          go_wp2
          refine ⟨rfl, rfl, Grows.refl _, ?_⟩
          unfold Oper.valAt
          go_simp
          rfl
        intro k1 a1 hk1 ha1
        simp only [Nat.reduceAdd] at hk1
        simp only [Act.put, List.setIfInBounds_toArray, List.set_cons_succ, List.set_cons_zero] at ha1
        subst hk1 ha1
      apply Mono.is0
      · kernel_rfl
      · intro W hW
        obtain ⟨q0, q1, q2, q3, q4, q5⟩ := HC.out W hW
        go_wp2
        refine ⟨rfl, rfl, Grows.refl _, ?_⟩
        unfold Oper.valAt
        go_simp
        rfl
      intro k1 a1 hk1 ha1
      simp only [Nat.reduceAdd] at hk1
      simp only [Act.put, List.setIfInBounds_toArray, List.set_cons_succ, List.set_cons_zero] at ha1
      subst hk1 ha1
      iterate 4
        apply Mono.is0
        · kernel_rfl
        · intro W hW
          go_wp2
          refine ⟨rfl, rfl, Grows.refl _, ?_⟩
          unfold Oper.valAt
          go_simp
          rfl
        intro k1 a1 hk1 ha1
        simp only [Nat.reduceAdd] at hk1
        simp only [Act.put, List.setIfInBounds_toArray, List.set_cons_succ, List.set_cons_zero] at ha1
        subst hk1 ha1
      apply Mono.is0
      · kernel_rfl
      · intro W hW
        obtain ⟨q0, q1, q2, q3, q4, q5⟩ := HC.out W hW
        go_wp2
        refine ⟨rfl, rfl, Grows.refl _, ?_⟩
        unfold Oper.valAt
        go_simp
        rfl
      intro k1 a1 hk1 ha1
      simp only [Nat.reduceAdd] at hk1
      simp only [Act.put, List.setIfInBounds_toArray, List.set_cons_succ, List.set_cons_zero] at ha1
      subst hk1 ha1
      refine Mono.done ?_
      intro wm hgm
      simp only [allF, List.drop_succ_cons, List.drop_zero]
      have HB := lib_hid (write_any wm g m 8 100 mem a.x1 a.x2 a.bs a.B a.nb a.cb (Har.out.grows hgm) (by decide) (by decide) (by decide) Hi.out.1 Hi.out.2 (HsB.out.grows (Hgr.out.trans hgm)) (by have := Hf.out.1; omega))
      have hs1 := scat_win (mem := mem) (nC := 8) (wd := 100) (c := k) (d := a.x1) (l := [(a.x2, (a.nb : Int))]) (b := a.bs) Har.out.len Hx.out
      have Hgm1 := lib_hid (Hgr.out.trans hgm)
      obtain ⟨mem1, Hmem1⟩ : ∃ x, Hid (scatM mem 8 100 a.x1 [(a.x2, (a.nb : Int))] a.bs = x) := ⟨_, lib_hid rfl⟩
      rw [Hmem1.out] at HB hs1
      have Hs1 := lib_hid hs1
      clear hs1 hgm HC
      go_wp2_with fail
      refine HB.out.mono ?_
      rintro e wr2 ⟨rfl, hk2, har2⟩
      have Har2 := lib_hid har2
      have Hgr2 : Hid (Grows w wr2) := by
        have : Keeps (fun k => w.heap.size ≤ k) w wr2 := (Hgm1.out.keeps _).trans hk2 (fun i hi hlt => by subst hi; exact Hgm.out.2)
        exact this.grows (fun i hi => hi)
      have Hmlt := lib_hid har2.by_.lt
      have HC : Hid (∀ W, Grows wr2 W → _) := fun W hW => HCS.out W (Hgr2.out.trans hW)
      have Hsp := lib_hid (fun W (hW : Grows wr2 W) => spans16_any a.ls a.L a.nl a.cl W (HsL.out.grows (Hgr2.out.trans hW)) (by have := Hf.out.2; omega))
      clear hk2 har2 HB
      go_upto_region 12 with fail
      apply wp_region_mono 17 ((.is _, []) :: (.is _, []) :: (.is _, []) :: (.is _, []) :: (.is _, []) :: (.is _, []) :: (.is _, []) :: (.is _, []) :: (.is _, []) :: (.is _, []) :: (.is _, []) :: (.pr (fun v W => ∃ A n c, v = .slice A n c ∧ Hid (n = a.ls.length) ∧ wr2.heap.size ≤ wr2.heap.size ∧ SpanR W A n c a.ls ∧ (∀ p, A = some p → wr2.heap.size ≤ p.block)), []) :: (.is _, []) :: (.is _, []) :: (.is _, []) :: (.is _, []) :: (.is _, []) :: []) (by kernel_rfl) (by kernel_rfl)
      iterate 5
        apply Mono.is0
        · kernel_rfl
        · intro W hW
          go_wp2
          refine ⟨rfl, rfl, Grows.refl _, ?_⟩
          unfold Oper.valAt
          go_simp
          rfl
        intro k1 a1 hk1 ha1
        simp only [Nat.reduceAdd] at hk1
        simp only [Act.put, List.setIfInBounds_toArray, List.set_cons_succ, List.set_cons_zero] at ha1
        subst hk1 ha1
      apply Mono.is0
      · kernel_rfl
      · intro W hW
        obtain ⟨q0, q1, q2, q3, q4, q5⟩ := HC.out W hW
        go_wp2
        refine ⟨rfl, rfl, Grows.refl _, ?_⟩
        unfold Oper.valAt
        go_simp
        rfl
      intro k1 a1 hk1 ha1
      simp only [Nat.reduceAdd] at hk1
      simp only [Act.put, List.setIfInBounds_toArray, List.set_cons_succ, List.set_cons_zero] at ha1
      subst hk1 ha1
      iterate 4
        apply Mono.is0
        · kernel_rfl
        · intro W hW
          go_wp2
          refine ⟨rfl, rfl, Grows.refl _, ?_⟩
          unfold Oper.valAt
          go_simp
          rfl
        intro k1 a1 hk1 ha1
        simp only [Nat.reduceAdd] at hk1
        simp only [Act.put, List.setIfInBounds_toArray, List.set_cons_succ, List.set_cons_zero] at ha1
        subst hk1 ha1
      apply Mono.is0
      · kernel_rfl
      · intro W hW
        obtain ⟨q0, q1, q2, q3, q4, q5⟩ := HC.out W hW
        go_wp2
        refine ⟨rfl, rfl, Grows.refl _, ?_⟩
        unfold Oper.valAt
        go_simp
        rfl
      intro k1 a1 hk1 ha1
      simp only [Nat.reduceAdd] at hk1
      simp only [Act.put, List.setIfInBounds_toArray, List.set_cons_succ, List.set_cons_zero] at ha1
      subst hk1 ha1
      apply Mono.pr0
      · kernel_rfl
      · exact fun v W W' hW ⟨A, n, c, h1, h2, h3, h4, h5⟩ => ⟨A, n, c, h1, h2, h3, h4.grows hW, h5⟩
      · intro W hW 
        have hle := hW.le
        go_wp2_with fail
        refine (Hsp.out W hW).mono ?_
        rintro e w1 ⟨A1, n1, c1, hn1, rfl, hg1, ho1⟩
        have HS1 := lib_hid (own2_form ho1)
        clear ho1
        obtain ⟨A2, c2, e2, hs2, hb2⟩ := HS1.out
        cases e2
        have HS2 := lib_hid hs2
        have HB2 : Hid (∀ p, A1 = some p → wr2.heap.size ≤ p.block) := fun p hp => Nat.le_trans hle (hb2 p hp)
        clear HS1 hs2 hb2 hle
        go_wp2
        exact ⟨rfl, rfl, hg1, A1, n1, c1, rfl, hn1, Nat.le_refl _, HS2.out, HB2.out⟩
      intro v11
      intro k1 a1 hk1 ha1
      simp only [Nat.reduceAdd] at hk1
      simp only [Act.put, List.setIfInBounds_toArray, List.set_cons_succ, List.set_cons_zero] at ha1
      subst hk1 ha1
      iterate 4
        apply Mono.is0
        · kernel_rfl
        · intro W hW
          go_wp2
          refine ⟨rfl, rfl, Grows.refl _, ?_⟩
          unfold Oper.valAt
          go_simp
          rfl
        intro k1 a1 hk1 ha1
        simp only [Nat.reduceAdd] at hk1
        simp only [Act.put, List.setIfInBounds_toArray, List.set_cons_succ, List.set_cons_zero] at ha1
        subst hk1 ha1
      apply Mono.is0
      · kernel_rfl
      · intro W hW
        obtain ⟨q0, q1, q2, q3, q4, q5⟩ := HC.out W hW
        go_wp2
        refine ⟨rfl, rfl, Grows.refl _, ?_⟩
        unfold Oper.valAt
        go_simp
        rfl
      intro k1 a1 hk1 ha1
      simp only [Nat.reduceAdd] at hk1
      simp only [Act.put, List.setIfInBounds_toArray, List.set_cons_succ, List.set_cons_zero] at ha1
      subst hk1 ha1
      refine Mono.done ?_
      intro wm hgm
      simp only [allF, List.drop_succ_cons, List.drop_zero]
      intro g11
      obtain ⟨A2, n2, c2, rfl, hn2, _, hs2, hb2⟩ := g11
      have HB2 := lib_hid (scatter_any wm g m 8 100 mem1 a.x1 a.ls A2 n2 c2 a.bs a.B a.nb a.cb (Har2.out.grows hgm) (by decide) (by decide) (by decide) Hi.out.1 hs2 Hwf.out (fun p hp => by have := hb2 p hp; have := Hmlt.out; omega) (HsB.out.grows (Hgr2.out.trans hgm)) (by have := Hf.out.1; omega))
      have hs2w := scat_win (mem := mem1) (nC := 8) (wd := 100) (c := k) (d := a.x1) (l := a.ls) (b := a.bs) Hs1.out.1 Hx.out
      have Hgm2 := lib_hid (Hgr2.out.trans hgm)
      obtain ⟨mem2, Hmem2⟩ : ∃ x, Hid (scatM mem1 8 100 a.x1 a.ls a.bs = x) := ⟨_, lib_hid rfl⟩
      rw [Hmem2.out] at HB2 hs2w
      have Hs2w := lib_hid hs2w
      clear hs2w hgm HC hs2 hb2 hn2 Hsp
      go_wp2_with fail
      refine HB2.out.mono ?_
      rintro e wr3 ⟨rfl, hk3, har3⟩
      have Har3 := lib_hid har3
      have Hgr3 : Hid (Grows w wr3) := by
        have : Keeps (fun k => w.heap.size ≤ k) w wr3 := (Hgm2.out.keeps _).trans hk3 (fun i hi hlt => by subst hi; exact Hgm.out.2)
        exact this.grows (fun i hi => hi)
      obtain ⟨q0, q1, q2, q3, q4, q5⟩ := HCS.out wr3 Hgr3.out
      have HB3 := lib_hid (wipe_any wr3 g m 8 100 mem2 a.x1 Har3.out (by decide) (by decide) (by decide) Hi.out.1)
      have Hw3 := lib_hid (wipe_win (mem := mem2) (nC := 8) (wd := 100) (c := k) (d := a.x1) Hs2w.out.1 Hx.out)
      clear hk3 har3 HB2 q0 q2 q3 q4 q5
      go_wp2_with fail
      refine HB3.out.mono ?_
      rintro e wr4 ⟨rfl, hk4, har4⟩
      have Har4 := lib_hid har4
      have Hgr4 : Hid (Grows w wr4) := by
        have : Keeps (fun k => w.heap.size ≤ k) w wr4 := (Hgr3.out.keeps _).trans hk4 (fun i hi hlt => by subst hi; exact Hgm.out.2)
        exact this.grows (fun i hi => hi)
      have Hw4 : Hid (winF (wipeM mem2 8 100 a.x1) 100 k = win) := by unfold Hid; rw [Hw3.out.2, Hs2w.out.2, Hs1.out.2, Hw.out]
      clear hk4 har4 HB3 q1
      go_wp2
      go_roundw
      case rel => exact ⟨j + 1, _, by omega, by go_num, Hgr4, Har4, Hw4⟩
      case measure => simp [intOf]; omega
    · have hji : ¬ (j : Int) < n := by omega
      have hE : doesE 8 100 (k : Int) [((0 : Int), (100 : Int))] = 0 := one_E 8 100 k (by omega) 0 100 (by omega)
      have hR := read_any wr g m 8 100 mem k 0 100 Har.out (by decide) (by decide) (by decide) (I64k k (by omega)) ⟨by decide, by decide⟩
      have hG : gathB mem 8 100 (k : Int) [((0 : Int), (100 : Int))] = win := by
        unfold gathB
        rw [hE, if_pos rfl, ← Hw.out]
        show (mem.drop (k * 100 + 0)).take 100 ++ [] = (mem.drop (k * 100)).take 100
        rw [List.append_nil, Nat.add_zero]
      rw [hE, hG] at hR
      have HR := lib_hid hR
      clear hE hR hG hlt hj
      go_wp2_with fail
      refine HR.out.mono ?_
      rintro e w5 ⟨A5, n5, c5, rfl, hn5, hg5, hs5⟩
      have Hn5 : Hid (n5 = 100) := by
        have := hn5.out
        rw [← Hwin.out, List.length_append, List.length_replicate, hbl.out] at this
        have := Hnb.out
        unfold Hid; omega
      have hn5i : (n5 : Int) = 100 := by have := Hn5.out; omega
      have HS5 := lib_hid hs5
      have Hg5 := lib_hid (Hgr.out.trans hg5)
      have hc5 := hs5.max
      unfold maxLen at hc5
      have hnc5 := hs5.cap
      clear hs5 hg5 HR hji hn5
      go_wp2
      have hn5i : (n5 : Int) = 100 := by have := Hn5.out; omega
      go_loopw [13] (fun i wr => ∃ i' : Nat, (i' : Int) ≤ 100 ∧ i = .int .i64 i' ∧ Grows w5 wr) (fun i _ => 100 - (intOf i).toNat)
      case atStart => exact ⟨0, by omega, rfl, Grows.refl w5⟩
      case round =>
        obtain ⟨i, hi, rfl, hgr⟩ := hrel
        by_cases hlt : (i : Int) < 100
        · obtain ⟨b5, o5, eA5, hb5, hcl5⟩ := HS5.out.2.2.2.2 (by have := Hn5.out; omega)
          subst eA5
          have hi5 : (i : Int) < n5 := by omega
          have hi5' : i < n5 := by omega
          have Hlt := lib_hid hlt
          by_cases hin : i < nb
          · obtain ⟨bb, ob, eB, hbb, hcb⟩ := HSb.out.2.2.2.2 (by omega)
            subst eB
            obtain ⟨z, hz⟩ : ∃ z, bs[i]? = some z := ⟨_, List.getElem?_eq_getElem (by rw [hbl.out]; exact hin)⟩
            have HC : Hid (∀ W, Grows wr W → W.cell? ⟨b5, o5 + i, none⟩ = some (.int .u8 (z.toNat : Int)) ∧ W.cell? ⟨bb, ob + i, none⟩ = some (.int .u8 (z.toNat : Int))) := fun W hW => by
              refine ⟨((hgr.trans hW).cell (p := ⟨b5, o5 + i, none⟩) hb5).trans ((hcl5 i hi5').trans ?_), (((Hg5.out.trans hgr).trans hW).cell (p := ⟨bb, ob + i, none⟩) hbb).trans ((hcb i hin).trans ?_)⟩
              · rw [List.getElem?_map, ← Hwin.out, List.getElem?_append_left (by rw [hbl.out]; exact hin), hz]; rfl
              · rw [List.getElem?_map, hz]; rfl
            have Hd1 : Hid (decide ((i : Int) < (nb : Int)) = true) := by unfold Hid; exact decide_eq_true (by omega)
            have Hd2 : Hid (decide (i < nb) = true) := by unfold Hid; exact decide_eq_true (by omega)
            have He1 : Hid (decide ((nb : Int) ≤ (i : Int)) = false) := by unfold Hid; exact decide_eq_false (by omega)
            have He2 : Hid (decide (nb ≤ i) = false) := by unfold Hid; exact decide_eq_false (by omega)
            have hinb : (i : Int) < nb := by omega
            clear hz hb5 hcl5 hbb hcb hin hlt hi5'
            go_upto_region 20 with fail
            apply wp_region_mono 28 ((.is _, []) :: (.is _, []) :: (.is _, []) :: (.is _, []) :: (.is _, []) :: (.is _, []) :: (.is _, []) :: (.is _, []) :: (.is _, []) :: (.is _, []) :: (.is _, []) :: (.is _, []) :: (.is _, []) :: (.is (.bool false), []) :: (.is _, []) :: (.is _, []) :: (.is _, []) :: (.is _, []) :: (.is _, []) :: (.is _, []) :: (.is _, []) :: (.is undef, []) :: (.is undef, []) :: (.is undef, []) :: (.is undef, []) :: (.is undef, []) :: (.is _, []) :: (.is _, []) :: []) (by kernel_rfl) (by kernel_rfl)
            iterate 3
              apply Mono.is0
              · kernel_rfl
              · intro W hW
                go_wp2
                refine ⟨rfl, rfl, Grows.refl _, ?_⟩
                unfold Oper.valAt
                go_simp
                rfl
              intro k1 a1 hk1 ha1
              simp only [Nat.reduceAdd] at hk1
              simp only [Act.put, List.setIfInBounds_toArray, List.set_cons_succ, List.set_cons_zero] at ha1
              subst hk1 ha1
            apply Mono.is0
            · kernel_rfl
            · intro W hW
              have hd1 := Hd1.out
              have hd2 := Hd2.out
              go_wp2
              refine ⟨rfl, rfl, Grows.refl _, ?_⟩
              unfold Oper.valAt
              go_simp
              rfl
            intro k1 a1 hk1 ha1
            simp only [Nat.reduceAdd] at hk1
            simp only [Act.put, List.setIfInBounds_toArray, List.set_cons_succ, List.set_cons_zero] at ha1
            subst hk1 ha1
            iterate 4
              apply Mono.is0
              · kernel_rfl
              · intro W hW
                go_wp2
                refine ⟨rfl, rfl, Grows.refl _, ?_⟩
                unfold Oper.valAt
                go_simp
                rfl
              intro k1 a1 hk1 ha1
              simp only [Nat.reduceAdd] at hk1
              simp only [Act.put, List.setIfInBounds_toArray, List.set_cons_succ, List.set_cons_zero] at ha1
              subst hk1 ha1
            apply Mono.is0
            · kernel_rfl
            · intro W hW
              obtain ⟨q1, q2⟩ := HC.out W hW
              go_wp2
              refine ⟨rfl, rfl, Grows.refl _, ?_⟩
              unfold Oper.valAt
              go_simp
              rfl
            intro k1 a1 hk1 ha1
            simp only [Nat.reduceAdd] at hk1
            simp only [Act.put, List.setIfInBounds_toArray, List.set_cons_succ, List.set_cons_zero] at ha1
            subst hk1 ha1
            iterate 3
              apply Mono.is0
              · kernel_rfl
              · intro W hW
                go_wp2
                refine ⟨rfl, rfl, Grows.refl _, ?_⟩
                unfold Oper.valAt
                go_simp
                rfl
              intro k1 a1 hk1 ha1
              simp only [Nat.reduceAdd] at hk1
              simp only [Act.put, List.setIfInBounds_toArray, List.set_cons_succ, List.set_cons_zero] at ha1
              subst hk1 ha1
            apply Mono.is0
            · kernel_rfl
            · intro W hW
              obtain ⟨q1, q2⟩ := HC.out W hW
              go_wp2
              refine ⟨rfl, rfl, Grows.refl _, ?_⟩
              unfold Oper.valAt
              go_simp
              rfl
            intro k1 a1 hk1 ha1
            simp only [Nat.reduceAdd] at hk1
            simp only [Act.put, List.setIfInBounds_toArray, List.set_cons_succ, List.set_cons_zero] at ha1
            subst hk1 ha1
            apply Mono.is0
            · kernel_rfl
            · intro W hW 
              go_wp2
              refine ⟨rfl, rfl, Grows.refl _, ?_⟩
              unfold Oper.valAt
              go_simp
            intro k1 a1 hk1 ha1
            simp only [Nat.reduceAdd] at hk1
            simp only [Act.put, List.setIfInBounds_toArray, List.set_cons_succ, List.set_cons_zero] at ha1
            subst hk1 ha1
            iterate 5
              apply Mono.is0
              · kernel_rfl
              · intro W hW
                go_wp2
                refine ⟨rfl, rfl, Grows.refl _, ?_⟩
                unfold Oper.valAt
                go_simp
                rfl
              intro k1 a1 hk1 ha1
              simp only [Nat.reduceAdd] at hk1
              simp only [Act.put, List.setIfInBounds_toArray, List.set_cons_succ, List.set_cons_zero] at ha1
              subst hk1 ha1
            apply Mono.is0
            · kernel_rfl
            · intro W hW
              have hd1 := He1.out
              have hd2 := He2.out
              go_wp2
              refine ⟨rfl, rfl, Grows.refl _, ?_⟩
              unfold Oper.valAt
              go_simp
              rfl
            intro k1 a1 hk1 ha1
            simp only [Nat.reduceAdd] at hk1
            simp only [Act.put, List.setIfInBounds_toArray, List.set_cons_succ, List.set_cons_zero] at ha1
            subst hk1 ha1
            apply Mono.is0
            · kernel_rfl
            · intro W hW
              go_wp2
              refine ⟨rfl, rfl, Grows.refl _, ?_⟩
              unfold Oper.valAt
              go_simp
              rfl
            intro k1 a1 hk1 ha1
            simp only [Nat.reduceAdd] at hk1
            simp only [Act.put, List.setIfInBounds_toArray, List.set_cons_succ, List.set_cons_zero] at ha1
            subst hk1 ha1
            apply Mono.no
            · kernel_rfl
            intro k1 a1 hk1 ha1
            simp only [Nat.reduceAdd] at hk1
            simp only [Act.put, List.setIfInBounds_toArray, List.set_cons_succ, List.set_cons_zero] at ha1
            subst hk1 ha1
            apply Mono.no
            · kernel_rfl
            intro k1 a1 hk1 ha1
            simp only [Nat.reduceAdd] at hk1
            simp only [Act.put, List.setIfInBounds_toArray, List.set_cons_succ, List.set_cons_zero] at ha1
            subst hk1 ha1
            apply Mono.no
            · kernel_rfl
            intro k1 a1 hk1 ha1
            simp only [Nat.reduceAdd] at hk1
            simp only [Act.put, List.setIfInBounds_toArray, List.set_cons_succ, List.set_cons_zero] at ha1
            subst hk1 ha1
            apply Mono.no
            · kernel_rfl
            intro k1 a1 hk1 ha1
            simp only [Nat.reduceAdd] at hk1
            simp only [Act.put, List.setIfInBounds_toArray, List.set_cons_succ, List.set_cons_zero] at ha1
            subst hk1 ha1
            apply Mono.no
            · kernel_rfl
            intro k1 a1 hk1 ha1
            simp only [Nat.reduceAdd] at hk1
            simp only [Act.put, List.setIfInBounds_toArray, List.set_cons_succ, List.set_cons_zero] at ha1
            subst hk1 ha1
            iterate 2
              apply Mono.is0
              · kernel_rfl
              · intro W hW
                go_wp2
                refine ⟨rfl, rfl, Grows.refl _, ?_⟩
                unfold Oper.valAt
                go_simp
                rfl
              intro k1 a1 hk1 ha1
              simp only [Nat.reduceAdd] at hk1
              simp only [Act.put, List.setIfInBounds_toArray, List.set_cons_succ, List.set_cons_zero] at ha1
              subst hk1 ha1
            refine Mono.done ?_
            intro wm hgm
            simp only [allF, List.drop_succ_cons, List.drop_nil]
            have hg6 := hgr.trans hgm
            clear HC hgm hgr hinb
            have hlt := Hlt.out
            go_wp2
            go_roundw
            case rel => exact ⟨i + 1, by omega, by go_num, hg6⟩
            case measure => simp [intOf]; omega
          · have HC : Hid (∀ W, Grows wr W → W.cell? ⟨b5, o5 + i, none⟩ = some (.int .u8 0) ∧ True) := fun W hW => by
              refine ⟨((hgr.trans hW).cell (p := ⟨b5, o5 + i, none⟩) hb5).trans ((hcl5 i hi5').trans ?_), trivial⟩
              rw [List.getElem?_map, ← Hwin.out, List.getElem?_append_right (by rw [hbl.out]; omega), List.getElem?_replicate, if_pos (by rw [hbl.out]; omega)]; rfl
            have Hd1 : Hid (decide ((i : Int) < (nb : Int)) = false) := by unfold Hid; exact decide_eq_false (by omega)
            have Hd2 : Hid (decide (i < nb) = false) := by unfold Hid; exact decide_eq_false (by omega)
            have He1 : Hid (decide ((nb : Int) ≤ (i : Int)) = true) := by unfold Hid; exact decide_eq_true (by omega)
            have He2 : Hid (decide (nb ≤ i) = true) := by unfold Hid; exact decide_eq_true (by omega)
            clear hb5 hcl5 hin hlt hi5'
            go_upto_region 20 with fail
            apply wp_region_mono 28 ((.is _, []) :: (.is _, []) :: (.is _, []) :: (.is _, []) :: (.is _, []) :: (.is undef, []) :: (.is undef, []) :: (.is undef, []) :: (.is undef, []) :: (.is undef, []) :: (.is undef, []) :: (.is undef, []) :: (.is undef, []) :: (.is undef, []) :: (.is _, []) :: (.is _, []) :: (.is _, []) :: (.is _, []) :: (.is _, []) :: (.is _, []) :: (.is _, []) :: (.is _, []) :: (.is _, []) :: (.is _, []) :: (.is _, []) :: (.is (.bool false), []) :: (.is _, []) :: (.is _, []) :: []) (by kernel_rfl) (by kernel_rfl)
            iterate 3
              apply Mono.is0
              · kernel_rfl
              · intro W hW
                go_wp2
                refine ⟨rfl, rfl, Grows.refl _, ?_⟩
                unfold Oper.valAt
                go_simp
                rfl
              intro k1 a1 hk1 ha1
              simp only [Nat.reduceAdd] at hk1
              simp only [Act.put, List.setIfInBounds_toArray, List.set_cons_succ, List.set_cons_zero] at ha1
              subst hk1 ha1
            apply Mono.is0
            · kernel_rfl
            · intro W hW
              have hd1 := Hd1.out
              have hd2 := Hd2.out
              go_wp2
              refine ⟨rfl, rfl, Grows.refl _, ?_⟩
              unfold Oper.valAt
              go_simp
              rfl
            intro k1 a1 hk1 ha1
            simp only [Nat.reduceAdd] at hk1
            simp only [Act.put, List.setIfInBounds_toArray, List.set_cons_succ, List.set_cons_zero] at ha1
            subst hk1 ha1
            apply Mono.is0
            · kernel_rfl
            · intro W hW
              go_wp2
              refine ⟨rfl, rfl, Grows.refl _, ?_⟩
              unfold Oper.valAt
              go_simp
              rfl
            intro k1 a1 hk1 ha1
            simp only [Nat.reduceAdd] at hk1
            simp only [Act.put, List.setIfInBounds_toArray, List.set_cons_succ, List.set_cons_zero] at ha1
            subst hk1 ha1
            apply Mono.no
            · kernel_rfl
            intro k1 a1 hk1 ha1
            simp only [Nat.reduceAdd] at hk1
            simp only [Act.put, List.setIfInBounds_toArray, List.set_cons_succ, List.set_cons_zero] at ha1
            subst hk1 ha1
            apply Mono.no
            · kernel_rfl
            intro k1 a1 hk1 ha1
            simp only [Nat.reduceAdd] at hk1
            simp only [Act.put, List.setIfInBounds_toArray, List.set_cons_succ, List.set_cons_zero] at ha1
            subst hk1 ha1
            apply Mono.no
            · kernel_rfl
            intro k1 a1 hk1 ha1
            simp only [Nat.reduceAdd] at hk1
            simp only [Act.put, List.setIfInBounds_toArray, List.set_cons_succ, List.set_cons_zero] at ha1
            subst hk1 ha1
            apply Mono.no
            · kernel_rfl
            intro k1 a1 hk1 ha1
            simp only [Nat.reduceAdd] at hk1
            simp only [Act.put, List.setIfInBounds_toArray, List.set_cons_succ, List.set_cons_zero] at ha1
            subst hk1 ha1
            apply Mono.no
            · kernel_rfl
            intro k1 a1 hk1 ha1
            simp only [Nat.reduceAdd] at hk1
            simp only [Act.put, List.setIfInBounds_toArray, List.set_cons_succ, List.set_cons_zero] at ha1
            subst hk1 ha1
            apply Mono.no
            · kernel_rfl
            intro k1 a1 hk1 ha1
            simp only [Nat.reduceAdd] at hk1
            simp only [Act.put, List.setIfInBounds_toArray, List.set_cons_succ, List.set_cons_zero] at ha1
            subst hk1 ha1
            apply Mono.no
            · kernel_rfl
            intro k1 a1 hk1 ha1
            simp only [Nat.reduceAdd] at hk1
            simp only [Act.put, List.setIfInBounds_toArray, List.set_cons_succ, List.set_cons_zero] at ha1
            subst hk1 ha1
            apply Mono.no
            · kernel_rfl
            intro k1 a1 hk1 ha1
            simp only [Nat.reduceAdd] at hk1
            simp only [Act.put, List.setIfInBounds_toArray, List.set_cons_succ, List.set_cons_zero] at ha1
            subst hk1 ha1
            apply Mono.no
            · kernel_rfl
            intro k1 a1 hk1 ha1
            simp only [Nat.reduceAdd] at hk1
            simp only [Act.put, List.setIfInBounds_toArray, List.set_cons_succ, List.set_cons_zero] at ha1
            subst hk1 ha1
            iterate 5
              apply Mono.is0
              · kernel_rfl
              · intro W hW
                go_wp2
                refine ⟨rfl, rfl, Grows.refl _, ?_⟩
                unfold Oper.valAt
                go_simp
                rfl
              intro k1 a1 hk1 ha1
              simp only [Nat.reduceAdd] at hk1
              simp only [Act.put, List.setIfInBounds_toArray, List.set_cons_succ, List.set_cons_zero] at ha1
              subst hk1 ha1
            apply Mono.is0
            · kernel_rfl
            · intro W hW
              have hd1 := He1.out
              have hd2 := He2.out
              go_wp2
              refine ⟨rfl, rfl, Grows.refl _, ?_⟩
              unfold Oper.valAt
              go_simp
              rfl
            intro k1 a1 hk1 ha1
            simp only [Nat.reduceAdd] at hk1
            simp only [Act.put, List.setIfInBounds_toArray, List.set_cons_succ, List.set_cons_zero] at ha1
            subst hk1 ha1
            iterate 4
              apply Mono.is0
              · kernel_rfl
              · intro W hW
                go_wp2
                refine ⟨rfl, rfl, Grows.refl _, ?_⟩
                unfold Oper.valAt
                go_simp
                rfl
              intro k1 a1 hk1 ha1
              simp only [Nat.reduceAdd] at hk1
              simp only [Act.put, List.setIfInBounds_toArray, List.set_cons_succ, List.set_cons_zero] at ha1
              subst hk1 ha1
            apply Mono.is0
            · kernel_rfl
            · intro W hW
              obtain ⟨q1, q2⟩ := HC.out W hW
              go_wp2
              refine ⟨rfl, rfl, Grows.refl _, ?_⟩
              unfold Oper.valAt
              go_simp
              rfl
            intro k1 a1 hk1 ha1
            simp only [Nat.reduceAdd] at hk1
            simp only [Act.put, List.setIfInBounds_toArray, List.set_cons_succ, List.set_cons_zero] at ha1
            subst hk1 ha1
            apply Mono.is0
            · kernel_rfl
            · intro W hW 
              go_wp2
              refine ⟨rfl, rfl, Grows.refl _, ?_⟩
              unfold Oper.valAt
              go_simp
            intro k1 a1 hk1 ha1
            simp only [Nat.reduceAdd] at hk1
            simp only [Act.put, List.setIfInBounds_toArray, List.set_cons_succ, List.set_cons_zero] at ha1
            subst hk1 ha1
            iterate 2
              apply Mono.is0
              · kernel_rfl
              · intro W hW
                go_wp2
                refine ⟨rfl, rfl, Grows.refl _, ?_⟩
                unfold Oper.valAt
                go_simp
                rfl
              intro k1 a1 hk1 ha1
              simp only [Nat.reduceAdd] at hk1
              simp only [Act.put, List.setIfInBounds_toArray, List.set_cons_succ, List.set_cons_zero] at ha1
              subst hk1 ha1
            refine Mono.done ?_
            intro wm hgm
            simp only [allF, List.drop_succ_cons, List.drop_nil]
            have hg6 := hgr.trans hgm
            clear HC hgm hgr
            have hlt := Hlt.out
            go_wp2
            go_roundw
            case rel => exact ⟨i + 1, by omega, by go_num, hg6⟩
            case measure => simp [intOf]; omega
        · have HA := lib_hid (awake16_any wr)
          go_wp2_with fail
          refine HA.out.mono ?_
          rintro e w7 ⟨rfl, hg7⟩
          go_wp2
          go_ret
          exact ⟨rfl, (Hg5.out.trans hgr).trans hg7⟩

end Go.Proofs.Ytbmmjkpibnnmeaa
