/-
  The walk of Arena.does.
-/
import Derived.Test.YtbmmjkpibnnmeaaArena1
import Derived.Lib.SliceRun
import Derived.Deep.Cut
namespace Go.Proofs.Ytbmmjkpibnnmeaa
open Go Go.RowKit
set_option linter.unusedSimpArgs false


/-- What the function F with the captured values caps does to the j-th part. -/
def DoesP (F : FuncId) (caps : Array Value) (m lo wd : Nat) (l : List (Int × Int)) (J : Nat → World → Prop) : Prop :=
  ∀ (j p q : Nat) (W : World), l[j]? = some ((p : Int), (q : Int)) → p + q ≤ wd → J j W → Calls Try.prog F (#[.slice (partA m lo wd p) q (wd - p)] ++ caps) W fun e W' => e = .returned (.tuple #[]) ∧ J (j + 1) W'
def doesE (nC wd : Nat) (c : Int) (l : List (Int × Int)) : Int := if 0 ≤ c ∧ c < nC then chkE l wd else 1
def DoesR (J : World → Prop) (w : World) (E : Int) (e : Ending) (w' : World) : Prop := e = .returned (.int .i64 E) ∧ (E = 0 → J w') ∧ (E ≠ 0 → Grows w w')
theorem chkE_fit {l : List (Int × Int)} {wd : Nat} (h : chkE l wd = 0) : l.length ≤ 8 ∧ ∀ p ∈ l, 0 ≤ p.1 ∧ 0 ≤ p.2 ∧ p.1 ≤ wd ∧ p.2 ≤ wd - p.1 := by
  unfold chkE at h
  split at h
  · cases h
  · split at h
    · rename_i h8 ha
      exact ⟨by omega, fun p hp => fit_iff.1 (List.all_eq_true.1 ha p hp)⟩
    · cases h
set_option maxRecDepth 100000 in
set_option maxHeartbeats 4000000 in
theorem does_any (w : World) (g m nC wd : Nat) (mem : List UInt8) (c : Int) (l : List (Int × Int)) (A : Option Addr) (n cc : Nat) (F : FuncId) (caps : Array Value) (J : Nat → World → Prop)
    (h : ArS w g m nC wd mem) (hw0 : 0 < wd) (hw : wd ≤ 4096) (hn : nC ≤ 8) (hc : -9223372036854775808 ≤ c ∧ c ≤ 9223372036854775807) (hs : SpanR w A n cc l)
    (hwf : ∀ p ∈ l, (-9223372036854775808 ≤ p.1 ∧ p.1 ≤ 9223372036854775807) ∧ (-9223372036854775808 ≤ p.2 ∧ p.2 ≤ 9223372036854775807))
    (hcf : ∀ (args : Array Value) (W : World), Sem.run Try.prog (callFunc F args) W = .ok (.enter F args) W)
    (hmono : ∀ j W W', Grows W W' → J j W → J j W') (hrd : ∀ j W, J j W → SpanR W A n cc l) (h0 : J 0 w) (hF : doesE nC wd c l = 0 → DoesP F caps m (c.toNat * wd) wd l J) :
    Calls Try.prog 43 #[.pointer (some ⟨g, 0, none⟩), .int .i64 c, .slice A n cc, .func (.func F) #[] caps] w (DoesR (J n) w (doesE nC wd c l)) := by
  have Hown := lib_hid (own_any w g m nC wd mem c h hw0 hw hn hc)
  have Hchk := lib_hid (fun W (hW : Grows w W) => check_any l A n cc wd W (hs.grows hW) hw hwf)
  have hll := lib_hid hs.len
  have hcap := hs.max
  unfold maxLen at hcap
  have hnc := hs.cap
  have Hmono := lib_hid hmono
  have Hrd := lib_hid hrd
  have H0 := lib_hid h0
  have HF := lib_hid hF
  have hwi : (wd : Int) ≤ 4096 := by omega
  clear hmono hrd h0 hF hs hwf h
  by_cases hr : 0 ≤ c ∧ c < nC
  rotate_left
  · have HE : Hid (doesE nC wd c l = 1) := by unfold Hid doesE; rw [if_neg hr]
    have HV : Hid (ownV m nC wd c = .slice none 0 0) := by unfold Hid ownV; rw [if_neg hr]
    clear hr hw0 hw hn hc
    rw [HE.out]
    rw [HV.out] at Hown
    have heq : ∀ W : World, (binOp .eql 44 (.slice none 0 0) (.slice none 0 0)).run Try.prog W = .ok (.bool true) W := fun W => Lib.run_eql_slice_nil W 44 5 _ _ _ _ _ Try.underlying44
    go_enter Try.func43, Try.ntmps43
    go_wp2_with fail
    refine Hown.out.mono ?_
    rintro e w1 ⟨rfl, hg1⟩
    go_wp2
    go_ret
    exact ⟨rfl, fun h => absurd h (by decide), fun _ => hg1⟩
  have HV : Hid (ownV m nC wd c = .slice (some ⟨m, c.toNat * wd, none⟩) wd wd) := by unfold Hid ownV; rw [if_pos hr]
  have HE : Hid (doesE nC wd c l = chkE l wd) := by unfold Hid doesE; rw [if_pos hr]
  obtain ⟨lo, Hlo⟩ : ∃ lo, Hid (c.toNat * wd = lo) := ⟨_, lib_hid rfl⟩
  rw [Hlo.out] at HV HF
  rw [HE.out] at HF
  rw [HV.out] at Hown
  rw [HE.out]
  obtain ⟨E, HEE⟩ : ∃ E, Hid (chkE l wd = E) := ⟨_, lib_hid rfl⟩
  rw [HEE.out] at Hchk ⊢
  have HF2 : Hid (E = 0 → DoesP F caps m lo wd l J) := fun h => HF.out (HEE.out.trans h)
  have heq : ∀ W : World, (binOp .eql 44 (.slice (some ⟨m, lo, none⟩) wd wd) (.slice none 0 0)).run Try.prog W = .ok (.bool false) W := fun W => Lib.run_eql_slice_nil W 44 5 _ _ _ _ _ Try.underlying44
  have HR := lib_hid hr
  clear hr hw0 hw hn hc HV HE
  go_enter Try.func43, Try.ntmps43
  go_wp2_with fail
  refine Hown.out.mono ?_
  rintro e w1 ⟨rfl, hg1⟩
  go_wp2_with fail
  refine (Hchk.out _ hg1).mono ?_
  rintro e w2 ⟨sum, rfl, hg2⟩
  have hg02 := hg1.trans hg2
  clear heq Hown Hchk
  by_cases hE0 : E = 0
  rotate_left
  · have hd : (E == 0) = false := by simpa using hE0
    have hd2 : (E != 0) = true := by simpa using hE0
    have hE1 := lib_hid hE0
    clear hE0
    go_wp2
    go_ret
    exact ⟨rfl, fun h => absurd h hE1.out, fun _ => hg02⟩
  subst hE0
  obtain ⟨h8, hfit⟩ := chkE_fit HEE.out
  have Hfit := lib_hid hfit
  have HF3 := lib_hid (HF2.out rfl)
  have H1 := lib_hid (Hmono.out 0 w w2 hg02 H0.out)
  clear hfit h8 HF HF2
  go_wp2
  go_loopw [31] (fun i wr => ∃ k : Nat, k ≤ n ∧ i = .int .i64 k ∧ J k wr) (fun i _ => n - (intOf i).toNat)
  case atStart => exact ⟨0, Nat.zero_le _, rfl, H1.out⟩
  case round =>
    obtain ⟨k, hk, rfl, hJ⟩ := hrel
    have HJ := lib_hid hJ
    clear hJ
    by_cases hlt : k < n
    · have hki : (k : Int) < n := by omega
      obtain ⟨b, off, x, y, rfl, hb, hxy, hc1, hc2⟩ := (Hrd.out k wr HJ.out).at hlt
      obtain ⟨f1, f2, f3, f4⟩ := Hfit.out _ (List.mem_of_getElem? hxy)
      simp only at f1 f2 f3 f4
      obtain ⟨p, rfl⟩ := Int.eq_ofNat_of_zero_le f1
      obtain ⟨q, rfl⟩ := Int.eq_ofNat_of_zero_le f2
      obtain ⟨s, hs1, hs2, hs3, Hs⟩ : ∃ s : Nat, (p : Int) + (q : Int) = (s : Int) ∧ (s : Int) ≤ wd ∧ s - p = q ∧ Hid (p + q = s) := ⟨p + q, by omega, by omega, by omega, lib_hid rfl⟩
      have hps : (p : Int) ≤ s := by omega
      have Hxy := lib_hid hxy
      obtain ⟨P, hP, HP⟩ : ∃ P, (if wd = p then (some ⟨m, lo, none⟩ : Option Addr) else some ⟨m, lo + p, none⟩) = P ∧ Hid (partA m lo wd p = P) := ⟨_, rfl, lib_hid rfl⟩
      have HJ2 : Hid (J k (wr.alloc (.cells #[iV (p : Int), iV (q : Int)] 28))) := Hmono.out k wr _ ((Grows.refl wr).alloc _) HJ.out
      have HC := lib_hid (HF3.out k p q _ Hxy.out (by have := Hs.out; omega) HJ2.out)
      rw [HP.out] at HC
      clear HJ HJ2 hxy f1 f2 f3 f4
      go_wp2_with fail
      refine HC.out.mono ?_
      rintro e w3 ⟨rfl, hJ3⟩
      have HJ3 := lib_hid hJ3
      clear hJ3 HC hP hc1 hc2
      go_wp2
      go_roundw
      case rel => exact ⟨k + 1, by omega, by go_num, HJ3.out⟩
      case measure => simp [intOf]; omega
    · have hki : ¬ (k : Int) < n := by omega
      have hkn : k = n := by omega
      subst hkn
      go_wp2
      go_ret
      exact ⟨rfl, fun _ => HJ.out, fun h => absurd rfl h⟩

end Go.Proofs.Ytbmmjkpibnnmeaa
