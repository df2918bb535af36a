/-
  A region that draws its order, walked once, under whatever relation of worlds. Plain theorems over any program.
-/
import Derived.Test.YthcmdjaccjghjaaMono
namespace Go.Proofs.Ythcmdjaccjghjaa
open Go Go.RowKit

structure Rel (G : World → World → Prop) : Prop where
  refl : ∀ w, G w w
  trans : ∀ {a b c}, G a b → G b c → G a c
  drew : ∀ w, G w w.drew

def Spec.UpR (G : World → World → Prop) (s : Spec) : Prop := ∀ v w w', G w w' → s.ok v w → s.ok v w'
theorem Spec.upR_is (G : World → World → Prop) (u : Value) : (Spec.is u).UpR G := fun _ _ _ _ h => h

section
variable {P : Program} {ops : Array Oper} {G : World → World → Prop}

def MonoR (G : World → World → Prop) (P : Program) (ops : Array Oper) (w0 : World) (fin : List (Nat × (World → Prop)) → Act → Prop) :
    List Oper → List (Spec × List Nat) → Nat → List (Nat × (World → Prop)) → Act → Prop
  | [], [], _, fs, a => fin fs a
  | o :: l, s :: ss, k, fs, a =>
    (if Region.wanted o (yielded ops a.tmps) = true then s.1.UpR G ∧ ∀ w, G w0 w → needs fs w s.2 (wpList P ops (MonoQ o fun v w' => G w w' ∧ s.1.ok v w') [o] a w) else s.1 = .is undef) ∧
    (match s.1 with
     | .is u => MonoR G P ops w0 fin l ss (k + 1) fs (a.put o.dst u)
     | .pr R => ∀ v, MonoR G P ops w0 fin l ss (k + 1) ((k, R v) :: fs) (a.put o.dst v))
  | _, _, _, _, _ => False

/-- What the walk asks of operation i. -/
def AsksR (G : World → World → Prop) (P : Program) (ops : Array Oper) (w0 : World) (o : Oper) (s : Spec × List Nat) (fs : List (Nat × (World → Prop))) (a : Act) : Prop :=
  if Region.wanted o (yielded ops a.tmps) = true then s.1.UpR G ∧ ∀ w, G w0 w → needs fs w s.2 (wpList P ops (MonoQ o fun v w' => G w w' ∧ s.1.ok v w') [o] a w) else s.1 = .is undef

theorem MonoR.pick {w0 : World} {fin : List (Nat × (World → Prop)) → Act → Prop} {SS : List (Spec × List Nat)} {x : Nat → Value} (hx : Fits SS x) {a0 : Act} :
    ∀ (l : List Oper) (ss : List (Spec × List Nat)) (k : Nat), (∀ j, j < l.length → l[j]? = ops[k + j]?) → (∀ j, ss[j]? = SS[k + j]?) →
      MonoR G P ops w0 fin l ss k (factsOf SS x k) (upto ops (fun _ => true) x a0 k) →
      (∀ i, k ≤ i → i < k + l.length → ∃ o s, ops[i]? = some o ∧ SS[i]? = some s ∧ AsksR G P ops w0 o s (factsOf SS x i) (upto ops (fun _ => true) x a0 i)) ∧
      fin (factsOf SS x (k + l.length)) (upto ops (fun _ => true) x a0 (k + l.length))
  | [], [], k, _, _, h => ⟨fun i h1 h2 => absurd h2 (by simp; omega), by simpa [MonoR] using h⟩
  | [], _ :: _, _, _, _, h => by simp [MonoR] at h
  | _ :: _, [], _, _, _, h => by simp [MonoR] at h
  | o :: l, s :: ss, k, hl, hs, h => by
    obtain ⟨h1, h2⟩ := h
    have ho : ops[k]? = some o := by have := hl 0 (by simp); simpa using this.symm
    have hsk : SS[k]? = some s := by have := hs 0; simpa using this.symm
    have hnext : MonoR G P ops w0 fin l ss (k + 1) (factsOf SS x (k + 1)) (upto ops (fun _ => true) x a0 (k + 1)) := by
      obtain ⟨sp, ns⟩ := s
      simp only [factsOf, upto, hsk, ho, Option.bind_some, if_true]
      cases sp with
      | is u =>
        rw [hx k _ u hsk rfl]
        exact h2
      | pr R => exact h2 (x k)
    have ih := MonoR.pick hx l ss (k + 1) (fun j hj => by have := hl (j + 1) (by simp; omega); simpa [Nat.add_assoc, Nat.add_comm 1 j] using this)
      (fun j => by have := hs (j + 1); simpa [Nat.add_assoc, Nat.add_comm 1 j] using this) hnext
    refine ⟨fun i hi1 hi2 => ?_, ?_⟩
    · by_cases hik : i = k
      · subst hik
        exact ⟨o, s, ho, hsk, h1⟩
      · exact ih.1 i (by omega) (by simp only [List.length_cons] at hi2; omega)
    · have := ih.2
      rw [List.length_cons, show k + (l.length + 1) = k + 1 + l.length by omega]
      exact this

/-! ### What is asked of the region's edges: a closed Bool -/

structure InvR (G : World → World → Prop) (ops : Array Oper) (n : Nat) (ss : List (Spec × List Nat)) (w0 : World) (a0 : Act) (listed : Array Bool) (x : Nat → Value) (a : Act) (w : World) : Prop where
  head : HeadInv .any ops n listed
  grows : G w0 w
  act : a = upto ops (fun k => listed.getD k false) x a0 n
  up : ∀ k s, listed.getD k false = true → ss[k]? = some s → s.1.UpR G
  ok : ∀ k s, listed.getD k false = true → ss[k]? = some s → s.1.ok (x k) w
  fits : Fits ss x

variable {bs : Array Nat} {n : Nat} {ss : List (Spec × List Nat)} {w0 : World} {a0 : Act} {nss : List (List Nat)}

/-- One operation, whenever it comes up. -/
theorem InvR.step (hG : Rel G) (M : MonoOk ops bs n (ss.map (·.2)) a0.tmps.size) {listed : Array Bool} {x : Nat → Value} {a : Act} {w : World} (I : InvR G ops n ss w0 a0 listed x a w)
    (asks : ∀ x, Fits ss x → ∀ i, i < n → ∃ o s, ops[i]? = some o ∧ ss[i]? = some s ∧ AsksR G P ops w0 o s (factsOf ss x i) (upto ops (fun _ => true) x a0 i))
    {i : Nat} (hr : i ∈ Region.ready .any ops listed) (hi : i < n) {K : Act → World → Prop} {Q : Exit → Act → World → Prop}
    (hK : ∀ x' a' w', InvR G ops n ss w0 a0 (listed.setIfInBounds i true) x' a' w' → K a' w') : wpOp P ops Q i K a w := by
  obtain ⟨o, s, ho, hs, hask⟩ := asks x I.fits i hi
  obtain ⟨hun, o', ho', hall⟩ := mem_ready.1 hr
  obtain rfl : o = o' := Option.some.inj (ho.symm.trans ho')
  have hun := getD_both hun
  have hc : Closed ops listed := I.head.closed
  have same : ∀ t, t ∈ o.looksAt ops → (upto ops (fun _ => true) x a0 i).tmps[t]? = a.tmps[t]? := fun t ht => by
    rw [I.act]; exact slot_same M hc hi ho hall hun ht
  have hsel : ∀ cs b, o.op ≠ .select cs b := fun cs b => Region.noSelect_spec M.sel i o cs b ho
  have next : ∀ v w', G w w' → s.1.UpR G → s.1.ok (Oper.norm o v) w' → K (a.put o.dst v) w' := by
    intro v w' hg hup hok
    refine hK (fun k => if k = i then Oper.norm o v else x k) _ _ ⟨I.head.set hr hi, hG.trans I.grows hg, ?_, fun k sk hl hsk => ?_, fun k sk hl hsk => ?_, fun k sk u hsk hu => ?_⟩
    · have e1 : upto ops (fun k => (listed.setIfInBounds i true).getD k false) (fun k => if k = i then Oper.norm o v else x k) a0 n =
          upto ops (fun k => if k = i then true else listed.getD k false) (fun k => if k = i then Oper.norm o v else x k) a0 n :=
        upto_congr (fun k hk => by
          by_cases hki : k = i
          · subst hki
            have : k < listed.size := by rw [I.head.size]; have := M.le; omega
            simp [this]
          · rw [getD_set_ne false (Ne.symm hki), if_neg hki]) (fun _ _ _ => rfl)
      rw [e1, upto_add hun hi (fun k hk hki d hd => by
        have hlt : k < ops.size := by have := M.le; omega
        rw [Array.getElem?_eq_getElem hlt]
        rw [ho] at hd
        exact (M.far k _ i o d hk (Array.getElem?_eq_getElem hlt) hi (Ne.symm hki) ho hd).1), ← I.act, ho]
      cases hd : o.dst with
      | none => simp [Act.put, hd]
      | some d => simp [Oper.norm, hd]
    · by_cases hki : k = i
      · subst hki
        obtain rfl : sk = s := Option.some.inj (hsk.symm.trans hs)
        exact hup
      · rw [getD_set_ne false (Ne.symm hki)] at hl
        exact I.up k sk hl hsk
    · by_cases hki : k = i
      · subst hki
        obtain rfl : sk = s := Option.some.inj (hsk.symm.trans hs)
        simpa using hok
      · rw [getD_set_ne false (Ne.symm hki)] at hl
        simp only [if_neg hki]
        exact I.up k sk hl hsk _ _ _ hg (I.ok k sk hl hsk)
    · by_cases hki : k = i
      · subst hki
        obtain rfl : sk = s := Option.some.inj (hsk.symm.trans hs)
        simp only [if_true]
        rw [hu] at hok
        exact hok
      · simp only [if_neg hki]
        exact I.fits k sk u hsk hu
  unfold wpOp
  simp only [ho]
  unfold AsksR at hask
  rw [wanted_same same] at hask
  by_cases hw : Region.wanted o (yielded ops a.tmps) = true
  · rw [if_pos hw] at hask ⊢
    left
    obtain ⟨hup, hob⟩ := hask
    have hwl := needs_spec (hob w I.grows) (fun j hj => by
      have hn := M.need i hi j (by rw [show (List.map (·.2) ss).getD i [] = s.2 by simp [hs]]; exact hj)
      have hjn : j < n := by omega
      have hlj := ahead_listed M.ahead hc i i rfl hi o ho hall j hjn hn.2
      exact factAt_of (fun sj hsj => I.ok j sj hlj hsj) i)
    have hg := gives_of_wpList (fun d hd => by rw [upto_size]; exact M.dst i o d hi ho hd) (by rw [wanted_same same]; exact hw) hwl
    unfold Oper.gives at hg
    rw [eval_same same hsel] at hg
    exact Oper.wp_of_gives (P := P) (o := o) (a := a) (w := w) (R := fun v w' => G w w' ∧ s.1.ok (Oper.norm o v) w') hg (fun v w' hvw => next v w' hvw.1 hup hvw.2)
  · rw [if_neg hw] at hask
    simp only [hw]
    refine next undef w (hG.refl w) (by rw [hask]; exact Spec.upR_is G _) ?_
    rw [hask]
    show Oper.norm o undef = undef
    unfold Oper.norm
    split <;> rfl

theorem InvR.any (hG : Rel G) (M : MonoOk ops bs n (ss.map (·.2)) a0.tmps.size) {Q : Exit → Act → World → Prop} {tl : List Oper} (htl : ∀ j, tl[j]? = ops[n + j]?) (htl' : tl.length = ops.size - n)
    (asks : ∀ x, Fits ss x → ∀ i, i < n → ∃ o s, ops[i]? = some o ∧ ss[i]? = some s ∧ AsksR G P ops w0 o s (factsOf ss x i) (upto ops (fun _ => true) x a0 i))
    (fin : ∀ x, Fits ss x → ∀ w, G w0 w → (∀ k s, k < n → ss[k]? = some s → s.1.ok (x k) w) → wpList P ops Q tl (upto ops (fun _ => true) x a0 n) w) :
    ∀ (m : Nat) (listed : Array Bool) (x : Nat → Value) (a : Act) (w : World), InvR G ops n ss w0 a0 listed x a w → left listed n = m → wpAny P .any ops Q (m + (ops.size - n)) listed a w := by
  intro m
  induction m with
  | zero =>
    intro listed x a w I hm
    have hall := left_zero n hm
    have hle := M.le
    have hl : listed = (List.replicate n true ++ List.replicate (ops.size - n) false).toArray := by
      apply Array.ext
      · rw [I.head.size]; simp; omega
      · intro k hk1 hk2
        by_cases hkn : k < n
        · have := hall k hkn
          simp only [Array.getD_eq_getD_getElem?, Array.getElem?_eq_getElem hk1, Option.getD_some] at this
          rw [this]
          simp [hkn]
        · have := I.head.tail k (by omega) (by rw [← I.head.size]; exact hk1)
          simp only [Array.getD_eq_getD_getElem?, Array.getElem?_eq_getElem hk1, Option.getD_some] at this
          rw [this]
          simp [List.getElem_append, hkn]
    rw [Nat.zero_add, ← htl']
    refine wpAny_of_seq tl n listed a w htl (by rw [htl', hl]; exact M.seq) ?_
    have e : a = upto ops (fun _ => true) x a0 n := by
      rw [I.act]
      exact upto_congr (fun k hk => hall k hk) (fun _ _ _ => rfl)
    rw [e]
    exact fin x I.fits w I.grows (fun k s hk hs => I.ok k s (hall k hk) hs)
  | succ m ih =>
    intro listed x a w I hm
    obtain ⟨k, hk, hun, hbefore⟩ := left_pos n (by omega : 0 < left listed n)
    have hlt : k < ops.size := by have := M.le; omega
    have hkr : k ∈ Region.ready .any ops listed := by
      rw [mem_ready]
      refine ⟨getD_in (by rw [I.head.size]; exact hlt) hun, ops[k], Array.getElem?_eq_getElem hlt, fun e he hb => ?_⟩
      exact hbefore _ (M.low k _ hk (Array.getElem?_eq_getElem hlt) e he hb)
    rw [show m + 1 + (ops.size - n) = (m + (ops.size - n)) + 1 by omega]
    refine ⟨fun h0 => (by rw [h0] at hkr; cases hkr), fun i hi => ?_⟩
    have hin : i < n := by
      rcases M.tail with h | ⟨h1, h2⟩
      · obtain ⟨_, oi, hoi, _⟩ := mem_ready.1 hi
        have := (Array.getElem?_eq_some_iff.1 hoi).1
        omega
      · by_cases hn : n < ops.size
        · rcases Nat.lt_or_ge i n with h | h
          · exact h
          · exact absurd hi (tail_waits h1 h2 hn I.head _ k rfl hk (mem_ready.1 hkr).1 i h)
        · obtain ⟨_, oi, hoi, _⟩ := mem_ready.1 hi
          have := (Array.getElem?_eq_some_iff.1 hoi).1
          omega
    have hun' := getD_both (mem_ready.1 hi).1
    refine I.step hG M asks hi hin (fun x' a' w' I' => ih _ _ _ _ I' ?_)
    have := left_set (listed := listed) (by rw [I.head.size]; have := M.le; omega) hun' n hin
    omega

/-- **A REGION THAT DRAWS ITS ORDER, WALKED ONCE.** The first n operations each by its own specification, the others in their order. -/
theorem wp_region_monoR (G : World → World → Prop) (hG : Rel G) {id : Nat} {Q : Exit → Act → World → Prop} {a : Act} {w : World} {l : List Oper} (n : Nat) (ss : List (Spec × List Nat)) (hm : P.follows .mixedOrders = true)
    (hB : monoB l.toArray (Region.before l.toArray) n (ss.map (·.2)) a.tmps.size = true)
    (h : MonoR G P l.toArray w (fun fs a' => ∀ w', G w w' → allF w' fs (wpList P l.toArray Q (l.drop n) a' w')) (l.take n) ss 0 [] a) : (Code.region id l.toArray true).wp P Q a w := by
  have M := monoOk hB
  have hn : n ≤ l.length := by have := M.le; simpa using this
  have pick := fun x (hx : Fits ss x) => MonoR.pick (P := P) (ops := l.toArray) (x := x) hx (a0 := a) (l.take n) ss 0 (fun j hj => by
    have hj' : j < n := by simp only [List.length_take] at hj; omega
    simp [hj']) (fun j => by rw [Nat.zero_add]) h
  have hlen : (l.take n).length = n := by simp; omega
  rw [hlen] at pick
  refine wp_region_any hm ?_
  have I0 : InvR G l.toArray n ss w a (Array.replicate l.toArray.size false) (fun k => match ss[k]? with | some (.is u, _) => u | _ => undef) a { w with drawn := w.drawn + 1 } := by
    refine ⟨⟨by simp, fun j oj _ hl => (by rw [getD_replicate_false] at hl; cases hl), fun t _ ht => getD_in (by simpa using ht) (getD_replicate_false _ _)⟩, hG.drew w, ?_, ?_, ?_, ?_⟩
    · have : ∀ m, upto l.toArray (fun k => (Array.replicate l.toArray.size false).getD k false) (fun k => match ss[k]? with | some (.is u, _) => u | _ => undef) a m = a := by
        intro m
        induction m with
        | zero => rfl
        | succ m ih =>
          simp only [upto, getD_replicate_false, Bool.false_eq_true, if_false]
          simp only [getD_replicate_false] at ih
          exact ih
      exact (this n).symm
    · intro k s hl; rw [getD_replicate_false] at hl; cases hl
    · intro k s hl; rw [getD_replicate_false] at hl; cases hl
    · intro k s u hs hu
      obtain ⟨sp, ns⟩ := s
      simp only at hu
      subst hu
      simp only [hs]
  have := InvR.any (P := P) hG M (Q := Q) (tl := l.drop n) (fun j => by simp [List.getElem?_drop]) (by simp)
    (fun x hx i hi => (pick x hx).1 i (by omega) (by omega))
    (fun x hx w' hg hok => by
      have hf := (pick x hx).2 w' hg
      rw [Nat.zero_add] at hf
      exact allF_spec hf (factsOf_mem n (fun j s hj hs => hok j s hj hs)))
    n _ _ _ _ I0 (left_fresh _ n)
  have e : n + (l.toArray.size - n) = l.toArray.size := by simp; omega
  rw [e] at this
  exact this

/-! ### The walk's steps -/
section
variable {fin : List (Nat × (World → Prop)) → Act → Prop} {l : List Oper} {k : Nat} {fs : List (Nat × (World → Prop))} {a : Act} {o : Oper} {ns : List Nat}

theorem MonoR.is {u : Value} (hw : Region.wanted o (yielded ops a.tmps) = true)
    (hob : ∀ w, G w0 w → needs fs w ns (wpList P ops (MonoQ o fun v w' => G w w' ∧ v = u) [o] a w))
    (hrest : MonoR G P ops w0 fin l ss (k + 1) fs (a.put o.dst u)) : MonoR G P ops w0 fin (o :: l) ((.is u, ns) :: ss) k fs a := by
  unfold MonoR
  rw [if_pos hw]
  exact ⟨⟨Spec.upR_is G u, hob⟩, hrest⟩

theorem MonoR.pr {R : Value → World → Prop} (hw : Region.wanted o (yielded ops a.tmps) = true) (hup : ∀ v w w', G w w' → R v w → R v w')
    (hob : ∀ w, G w0 w → needs fs w ns (wpList P ops (MonoQ o fun v w' => G w w' ∧ R v w') [o] a w))
    (hrest : ∀ v, MonoR G P ops w0 fin l ss (k + 1) ((k, R v) :: fs) (a.put o.dst v)) : MonoR G P ops w0 fin (o :: l) ((.pr R, ns) :: ss) k fs a := by
  unfold MonoR
  rw [if_pos hw]
  exact ⟨⟨hup, hob⟩, hrest⟩

theorem MonoR.is0 {u : Value} (hw : Region.wanted o (yielded ops a.tmps) = true)
    (hob : ∀ w, G w0 w → wpList P ops (MonoQ o fun v w' => G w w' ∧ v = u) [o] a w)
    (hrest : ∀ k' a', k' = k + 1 → a' = a.put o.dst u → MonoR G P ops w0 fin l ss k' fs a') : MonoR G P ops w0 fin (o :: l) ((.is u, []) :: ss) k fs a := MonoR.is hw hob (hrest _ _ rfl rfl)

theorem MonoR.pr0 {R : Value → World → Prop} (hw : Region.wanted o (yielded ops a.tmps) = true) (hup : ∀ v w w', G w w' → R v w → R v w')
    (hob : ∀ w, G w0 w → wpList P ops (MonoQ o fun v w' => G w w' ∧ R v w') [o] a w)
    (hrest : ∀ v k' a', k' = k + 1 → a' = a.put o.dst v → MonoR G P ops w0 fin l ss k' ((k, R v) :: fs) a') : MonoR G P ops w0 fin (o :: l) ((.pr R, []) :: ss) k fs a := MonoR.pr hw hup hob (fun v => hrest v _ _ rfl rfl)

theorem MonoR.is1 {u : Value} {i : Nat} (hw : Region.wanted o (yielded ops a.tmps) = true)
    (hob : ∀ w, G w0 w → factAt fs i w → wpList P ops (MonoQ o fun v w' => G w w' ∧ v = u) [o] a w)
    (hrest : ∀ k' a', k' = k + 1 → a' = a.put o.dst u → MonoR G P ops w0 fin l ss k' fs a') : MonoR G P ops w0 fin (o :: l) ((.is u, [i]) :: ss) k fs a := MonoR.is hw hob (hrest _ _ rfl rfl)

theorem MonoR.pr1 {R : Value → World → Prop} {i : Nat} (hw : Region.wanted o (yielded ops a.tmps) = true) (hup : ∀ v w w', G w w' → R v w → R v w')
    (hob : ∀ w, G w0 w → factAt fs i w → wpList P ops (MonoQ o fun v w' => G w w' ∧ R v w') [o] a w)
    (hrest : ∀ v k' a', k' = k + 1 → a' = a.put o.dst v → MonoR G P ops w0 fin l ss k' ((k, R v) :: fs) a') : MonoR G P ops w0 fin (o :: l) ((.pr R, [i]) :: ss) k fs a := MonoR.pr hw hup hob (fun v => hrest v _ _ rfl rfl)

theorem MonoR.is2 {u : Value} {i j : Nat} (hw : Region.wanted o (yielded ops a.tmps) = true)
    (hob : ∀ w, G w0 w → factAt fs i w → factAt fs j w → wpList P ops (MonoQ o fun v w' => G w w' ∧ v = u) [o] a w)
    (hrest : ∀ k' a', k' = k + 1 → a' = a.put o.dst u → MonoR G P ops w0 fin l ss k' fs a') : MonoR G P ops w0 fin (o :: l) ((.is u, [i, j]) :: ss) k fs a := MonoR.is hw hob (hrest _ _ rfl rfl)

theorem MonoR.pr2 {R : Value → World → Prop} {i j : Nat} (hw : Region.wanted o (yielded ops a.tmps) = true) (hup : ∀ v w w', G w w' → R v w → R v w')
    (hob : ∀ w, G w0 w → factAt fs i w → factAt fs j w → wpList P ops (MonoQ o fun v w' => G w w' ∧ R v w') [o] a w)
    (hrest : ∀ v k' a', k' = k + 1 → a' = a.put o.dst v → MonoR G P ops w0 fin l ss k' ((k, R v) :: fs) a') : MonoR G P ops w0 fin (o :: l) ((.pr R, [i, j]) :: ss) k fs a := MonoR.pr hw hup hob (fun v => hrest v _ _ rfl rfl)

theorem MonoR.no (hw : Region.wanted o (yielded ops a.tmps) = false) (hrest : ∀ k' a', k' = k + 1 → a' = a.put o.dst undef → MonoR G P ops w0 fin l ss k' fs a') :
    MonoR G P ops w0 fin (o :: l) ((.is undef, ns) :: ss) k fs a := by
  unfold MonoR
  rw [if_neg (by rw [hw]; simp)]
  exact ⟨rfl, hrest _ _ rfl rfl⟩

theorem MonoR.done (h : fin fs a) : MonoR G P ops w0 fin [] [] k fs a := h
end
end
end Go.Proofs.Ythcmdjaccjghjaa
