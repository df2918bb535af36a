/-
  A region that draws its order, walked once, under an invariant of (which operations are done, world). Plain theorems over any program.
-/
import Derived.Test.YthcmdjaccjghjaaMonoR
namespace Go.Proofs.Ythcmdjaccjghjaa
open Go Go.RowKit

def setL (L : Nat → Bool) (k : Nat) : Nat → Bool := fun j => if j = k then true else L j
def Shut (n : Nat) (bs : Array Nat) (L : Nat → Bool) : Prop := ∀ j i, j < n → i < n → L j = true → (bs.getD j 0).testBit i = true → L i = true
def Ahead (n : Nat) (bs : Array Nat) (L : Nat → Bool) (k : Nat) : Prop := ∀ i, i < n → (bs.getD k 0).testBit i = true → L i = true
theorem setL_listed {listed : Array Bool} {i : Nat} (hi : i < listed.size) : (fun k => (listed.setIfInBounds i true).getD k false) = setL (fun k => listed.getD k false) i := by
  funext k
  unfold setL
  by_cases h : k = i
  · subst h; simp [hi]
  · rw [if_neg h, getD_set_ne false (Ne.symm h)]
theorem full_listed (n m : Nat) : (fun k => ((List.replicate n true ++ List.replicate m false).toArray).getD k false) = fun k => decide (k < n) := by
  funext k
  by_cases h : k < n
  · simp [List.getElem?_append_left, h]
  · rw [decide_eq_false h]
    simp only [Array.getD_eq_getD_getElem?, List.getElem?_toArray]
    rw [List.getElem?_append_right (by simp; omega)]
    by_cases h2 : k - n < m
    · simp [h2]
    · simp [h2]
theorem none_listed (m : Nat) : (fun k => (Array.replicate m false).getD k false) = fun _ => false := by
  funext k; exact getD_replicate_false m k

section
variable {P : Program} {ops : Array Oper} {G : World → World → Prop} {J : (Nat → Bool) → World → Prop} {bs : Array Nat}

def MonoJ (G : World → World → Prop) (J : (Nat → Bool) → World → Prop) (bs : Array Nat) (n : Nat) (P : Program) (ops : Array Oper) (fin : List (Nat × (World → Prop)) → Act → Prop) :
    List Oper → List (Spec × List Nat) → Nat → List (Nat × (World → Prop)) → Act → Prop
  | [], [], _, fs, a => fin fs a
  | o :: l, s :: ss, k, fs, a =>
    (if Region.wanted o (yielded ops a.tmps) = true then s.1.UpR G ∧ ∀ L w, L k = false → Shut n bs L → Ahead n bs L k → J L w → needs fs w s.2 (wpList P ops (MonoQ o fun v w' => (G w w' ∧ J (setL L k) w') ∧ s.1.ok v w') [o] a w) else s.1 = .is undef ∧ ∀ L w, L k = false → J L w → J (setL L k) w) ∧
    (match s.1 with
     | .is u => MonoJ G J bs n P ops fin l ss (k + 1) fs (a.put o.dst u)
     | .pr R => ∀ v, MonoJ G J bs n P ops fin l ss (k + 1) ((k, R v) :: fs) (a.put o.dst v))
  | _, _, _, _, _ => False

/-- What the walk asks of operation i. -/
def AsksJ (G : World → World → Prop) (J : (Nat → Bool) → World → Prop) (bs : Array Nat) (n : Nat) (k : Nat) (P : Program) (ops : Array Oper) (o : Oper) (s : Spec × List Nat) (fs : List (Nat × (World → Prop))) (a : Act) : Prop :=
  if Region.wanted o (yielded ops a.tmps) = true then s.1.UpR G ∧ ∀ L w, L k = false → Shut n bs L → Ahead n bs L k → J L w → needs fs w s.2 (wpList P ops (MonoQ o fun v w' => (G w w' ∧ J (setL L k) w') ∧ s.1.ok v w') [o] a w) else s.1 = .is undef ∧ ∀ L w, L k = false → J L w → J (setL L k) w

theorem MonoJ.pick {n : Nat} {fin : List (Nat × (World → Prop)) → Act → Prop} {SS : List (Spec × List Nat)} {x : Nat → Value} (hx : Fits SS x) {a0 : Act} :
    ∀ (l : List Oper) (ss : List (Spec × List Nat)) (k : Nat), (∀ j, j < l.length → l[j]? = ops[k + j]?) → (∀ j, ss[j]? = SS[k + j]?) →
      MonoJ G J bs n P ops fin l ss k (factsOf SS x k) (upto ops (fun _ => true) x a0 k) →
      (∀ i, k ≤ i → i < k + l.length → ∃ o s, ops[i]? = some o ∧ SS[i]? = some s ∧ AsksJ G J bs n i P ops o s (factsOf SS x i) (upto ops (fun _ => true) x a0 i)) ∧
      fin (factsOf SS x (k + l.length)) (upto ops (fun _ => true) x a0 (k + l.length))
  | [], [], k, _, _, h => ⟨fun i h1 h2 => absurd h2 (by simp; omega), by simpa [MonoJ] using h⟩
  | [], _ :: _, _, _, _, h => by simp [MonoJ] at h
  | _ :: _, [], _, _, _, h => by simp [MonoJ] at h
  | o :: l, s :: ss, k, hl, hs, h => by
    obtain ⟨h1, h2⟩ := h
    have ho : ops[k]? = some o := by have := hl 0 (by simp); simpa using this.symm
    have hsk : SS[k]? = some s := by have := hs 0; simpa using this.symm
    have hnext : MonoJ G J bs n P ops fin l ss (k + 1) (factsOf SS x (k + 1)) (upto ops (fun _ => true) x a0 (k + 1)) := by
      obtain ⟨sp, ns⟩ := s
      simp only [factsOf, upto, hsk, ho, Option.bind_some, if_true]
      cases sp with
      | is u =>
        rw [hx k _ u hsk rfl]
        exact h2
      | pr R => exact h2 (x k)
    have ih := MonoJ.pick hx l ss (k + 1) (fun j hj => by have := hl (j + 1) (by simp; omega); simpa [Nat.add_assoc, Nat.add_comm 1 j] using this)
      (fun j => by have := hs (j + 1); simpa [Nat.add_assoc, Nat.add_comm 1 j] using this) hnext
    refine ⟨fun i hi1 hi2 => ?_, ?_⟩
    · by_cases hik : i = k
      · subst hik
        exact ⟨o, s, ho, hsk, h1⟩
      · exact ih.1 i (by omega) (by simp only [List.length_cons] at hi2; omega)
    · have := ih.2
      rw [List.length_cons, show k + (l.length + 1) = k + 1 + l.length by omega]
      exact this

/-! ### What is asked of the region's edges: a closed Bool -/

structure InvJ (J : (Nat → Bool) → World → Prop) (G : World → World → Prop) (ops : Array Oper) (n : Nat) (ss : List (Spec × List Nat)) (a0 : Act) (listed : Array Bool) (x : Nat → Value) (a : Act) (w : World) : Prop where
  head : HeadInv .any ops n listed
  inv : J (fun k => listed.getD k false) w
  act : a = upto ops (fun k => listed.getD k false) x a0 n
  up : ∀ k s, listed.getD k false = true → ss[k]? = some s → s.1.UpR G
  ok : ∀ k s, listed.getD k false = true → ss[k]? = some s → s.1.ok (x k) w
  fits : Fits ss x

variable {n : Nat} {ss : List (Spec × List Nat)} {a0 : Act} {nss : List (List Nat)}

/-- One operation, whenever it comes up. -/
theorem InvJ.step (hG : ∀ w, G w w) (M : MonoOk ops bs n (ss.map (·.2)) a0.tmps.size) {listed : Array Bool} {x : Nat → Value} {a : Act} {w : World} (I : InvJ J G ops n ss a0 listed x a w)
    (asks : ∀ x, Fits ss x → ∀ i, i < n → ∃ o s, ops[i]? = some o ∧ ss[i]? = some s ∧ AsksJ G J bs n i P ops o s (factsOf ss x i) (upto ops (fun _ => true) x a0 i))
    {i : Nat} (hr : i ∈ Region.ready .any ops listed) (hi : i < n) {K : Act → World → Prop} {Q : Exit → Act → World → Prop}
    (hK : ∀ x' a' w', InvJ J G ops n ss a0 (listed.setIfInBounds i true) x' a' w' → K a' w') : wpOp P ops Q i K a w := by
  obtain ⟨o, s, ho, hs, hask⟩ := asks x I.fits i hi
  obtain ⟨hun, o', ho', hall⟩ := mem_ready.1 hr
  obtain rfl : o = o' := Option.some.inj (ho.symm.trans ho')
  have hun := getD_both hun
  have hc : Closed ops listed := I.head.closed
  have same : ∀ t, t ∈ o.looksAt ops → (upto ops (fun _ => true) x a0 i).tmps[t]? = a.tmps[t]? := fun t ht => by
    rw [I.act]; exact slot_same M hc hi ho hall hun ht
  have hsel : ∀ cs b, o.op ≠ .select cs b := fun cs b => Region.noSelect_spec M.sel i o cs b ho
  have next : ∀ v w', (G w w' ∧ J (setL (fun k => listed.getD k false) i) w') → s.1.UpR G → s.1.ok (Oper.norm o v) w' → K (a.put o.dst v) w' := by
    intro v w' hg hup hok
    refine hK (fun k => if k = i then Oper.norm o v else x k) _ _ ⟨I.head.set hr hi, (by rw [setL_listed (by rw [I.head.size]; have := M.le; omega)]; exact hg.2), ?_, fun k sk hl hsk => ?_, fun k sk hl hsk => ?_, fun k sk u hsk hu => ?_⟩
    · have e1 : upto ops (fun k => (listed.setIfInBounds i true).getD k false) (fun k => if k = i then Oper.norm o v else x k) a0 n =
          upto ops (fun k => if k = i then true else listed.getD k false) (fun k => if k = i then Oper.norm o v else x k) a0 n :=
        upto_congr (fun k hk => by
          by_cases hki : k = i
          · subst hki
            have : k < listed.size := by rw [I.head.size]; have := M.le; omega
            simp [this]
          · rw [getD_set_ne false (Ne.symm hki), if_neg hki]) (fun _ _ _ => rfl)
      rw [e1, upto_add hun hi (fun k hk hki d hd => by
        have hlt : k < ops.size := by have := M.le; omega
        rw [Array.getElem?_eq_getElem hlt]
        rw [ho] at hd
        exact (M.far k _ i o d hk (Array.getElem?_eq_getElem hlt) hi (Ne.symm hki) ho hd).1), ← I.act, ho]
      cases hd : o.dst with
      | none => simp [Act.put, hd]
      | some d => simp [Oper.norm, hd]
    · by_cases hki : k = i
      · subst hki
        obtain rfl : sk = s := Option.some.inj (hsk.symm.trans hs)
        exact hup
      · rw [getD_set_ne false (Ne.symm hki)] at hl
        exact I.up k sk hl hsk
    · by_cases hki : k = i
      · subst hki
        obtain rfl : sk = s := Option.some.inj (hsk.symm.trans hs)
        simpa using hok
      · rw [getD_set_ne false (Ne.symm hki)] at hl
        simp only [if_neg hki]
        exact I.up k sk hl hsk _ _ _ hg.1 (I.ok k sk hl hsk)
    · by_cases hki : k = i
      · subst hki
        obtain rfl : sk = s := Option.some.inj (hsk.symm.trans hs)
        simp only [if_true]
        rw [hu] at hok
        exact hok
      · simp only [if_neg hki]
        exact I.fits k sk u hsk hu
  unfold wpOp
  simp only [ho]
  unfold AsksJ at hask
  rw [wanted_same same] at hask
  by_cases hw : Region.wanted o (yielded ops a.tmps) = true
  · rw [if_pos hw] at hask ⊢
    left
    obtain ⟨hup, hob⟩ := hask
    have hshut : Shut n bs (fun k => listed.getD k false) := fun j i' hj hi' hLj hb => by
      have hlt : j < ops.size := by have := M.le; omega
      exact ahead_listed M.ahead hc j j rfl hj ops[j] (Array.getElem?_eq_getElem hlt) (fun e he hbd => hc j _ (Array.getElem?_eq_getElem hlt) hLj e he hbd) i' hi' hb
    have hahead : Ahead n bs (fun k => listed.getD k false) i := fun i' hi' hb => ahead_listed M.ahead hc i i rfl hi o ho hall i' hi' hb
    have hwl := needs_spec (hob _ w hun hshut hahead I.inv) (fun j hj => by
      have hn := M.need i hi j (by rw [show (List.map (·.2) ss).getD i [] = s.2 by simp [hs]]; exact hj)
      have hjn : j < n := by omega
      have hlj := ahead_listed M.ahead hc i i rfl hi o ho hall j hjn hn.2
      exact factAt_of (fun sj hsj => I.ok j sj hlj hsj) i)
    have hg := gives_of_wpList (fun d hd => by rw [upto_size]; exact M.dst i o d hi ho hd) (by rw [wanted_same same]; exact hw) hwl
    unfold Oper.gives at hg
    rw [eval_same same hsel] at hg
    exact Oper.wp_of_gives (P := P) (o := o) (a := a) (w := w) (R := fun v w' => (G w w' ∧ J (setL (fun k => listed.getD k false) i) w') ∧ s.1.ok (Oper.norm o v) w') hg (fun v w' hvw => next v w' hvw.1 hup hvw.2)
  · rw [if_neg hw] at hask
    simp only [hw]
    refine next undef w ⟨hG w, hask.2 _ w hun I.inv⟩ (by rw [hask.1]; exact Spec.upR_is G _) ?_
    rw [hask.1]
    show Oper.norm o undef = undef
    unfold Oper.norm
    split <;> rfl

theorem InvJ.any (hG : ∀ w, G w w) (M : MonoOk ops bs n (ss.map (·.2)) a0.tmps.size) {Q : Exit → Act → World → Prop} {tl : List Oper} (htl : ∀ j, tl[j]? = ops[n + j]?) (htl' : tl.length = ops.size - n)
    (asks : ∀ x, Fits ss x → ∀ i, i < n → ∃ o s, ops[i]? = some o ∧ ss[i]? = some s ∧ AsksJ G J bs n i P ops o s (factsOf ss x i) (upto ops (fun _ => true) x a0 i))
    (fin : ∀ x, Fits ss x → ∀ w, J (fun k => decide (k < n)) w → (∀ k s, k < n → ss[k]? = some s → s.1.ok (x k) w) → wpList P ops Q tl (upto ops (fun _ => true) x a0 n) w) :
    ∀ (m : Nat) (listed : Array Bool) (x : Nat → Value) (a : Act) (w : World), InvJ J G ops n ss a0 listed x a w → left listed n = m → wpAny P .any ops Q (m + (ops.size - n)) listed a w := by
  intro m
  induction m with
  | zero =>
    intro listed x a w I hm
    have hall := left_zero n hm
    have hle := M.le
    have hl : listed = (List.replicate n true ++ List.replicate (ops.size - n) false).toArray := by
      apply Array.ext
      · rw [I.head.size]; simp; omega
      · intro k hk1 hk2
        by_cases hkn : k < n
        · have := hall k hkn
          simp only [Array.getD_eq_getD_getElem?, Array.getElem?_eq_getElem hk1, Option.getD_some] at this
          rw [this]
          simp [hkn]
        · have := I.head.tail k (by omega) (by rw [← I.head.size]; exact hk1)
          simp only [Array.getD_eq_getD_getElem?, Array.getElem?_eq_getElem hk1, Option.getD_some] at this
          rw [this]
          simp [List.getElem_append, hkn]
    rw [Nat.zero_add, ← htl']
    refine wpAny_of_seq tl n listed a w htl (by rw [htl', hl]; exact M.seq) ?_
    have e : a = upto ops (fun _ => true) x a0 n := by
      rw [I.act]
      exact upto_congr (fun k hk => hall k hk) (fun _ _ _ => rfl)
    rw [e]
    exact fin x I.fits w (by have := I.inv; rw [hl, full_listed] at this; exact this) (fun k s hk hs => I.ok k s (hall k hk) hs)
  | succ m ih =>
    intro listed x a w I hm
    obtain ⟨k, hk, hun, hbefore⟩ := left_pos n (by omega : 0 < left listed n)
    have hlt : k < ops.size := by have := M.le; omega
    have hkr : k ∈ Region.ready .any ops listed := by
      rw [mem_ready]
      refine ⟨getD_in (by rw [I.head.size]; exact hlt) hun, ops[k], Array.getElem?_eq_getElem hlt, fun e he hb => ?_⟩
      exact hbefore _ (M.low k _ hk (Array.getElem?_eq_getElem hlt) e he hb)
    rw [show m + 1 + (ops.size - n) = (m + (ops.size - n)) + 1 by omega]
    refine ⟨fun h0 => (by rw [h0] at hkr; cases hkr), fun i hi => ?_⟩
    have hin : i < n := by
      rcases M.tail with h | ⟨h1, h2⟩
      · obtain ⟨_, oi, hoi, _⟩ := mem_ready.1 hi
        have := (Array.getElem?_eq_some_iff.1 hoi).1
        omega
      · by_cases hn : n < ops.size
        · rcases Nat.lt_or_ge i n with h | h
          · exact h
          · exact absurd hi (tail_waits h1 h2 hn I.head _ k rfl hk (mem_ready.1 hkr).1 i h)
        · obtain ⟨_, oi, hoi, _⟩ := mem_ready.1 hi
          have := (Array.getElem?_eq_some_iff.1 hoi).1
          omega
    have hun' := getD_both (mem_ready.1 hi).1
    refine InvJ.step hG M I asks hi hin (fun x' a' w' I' => ih _ _ _ _ I' ?_)
    have := left_set (listed := listed) (by rw [I.head.size]; have := M.le; omega) hun' n hin
    omega

/-- **A REGION THAT DRAWS ITS ORDER, WALKED ONCE.** The first n operations each by its own specification, the others in their order. -/
theorem wp_region_monoJ (G : World → World → Prop) (hG : ∀ w, G w w) (J : (Nat → Bool) → World → Prop) {id : Nat} {Q : Exit → Act → World → Prop} {a : Act} {w : World} {l : List Oper} (bs : Array Nat) (n : Nat) (ss : List (Spec × List Nat)) (hm : P.follows .mixedOrders = true)
    (hJ0 : J (fun _ => false) w.drew)
    (hB : monoB l.toArray bs n (ss.map (·.2)) a.tmps.size = true)
    (h : MonoJ G J bs n P l.toArray (fun fs a' => ∀ w', J (fun k => decide (k < n)) w' → allF w' fs (wpList P l.toArray Q (l.drop n) a' w')) (l.take n) ss 0 [] a) : (Code.region id l.toArray true).wp P Q a w := by
  have M := monoOk hB
  have hn : n ≤ l.length := by have := M.le; simpa using this
  have pick := fun x (hx : Fits ss x) => MonoJ.pick (P := P) (ops := l.toArray) (x := x) hx (a0 := a) (l.take n) ss 0 (fun j hj => by
    have hj' : j < n := by simp only [List.length_take] at hj; omega
    simp [hj']) (fun j => by rw [Nat.zero_add]) h
  have hlen : (l.take n).length = n := by simp; omega
  rw [hlen] at pick
  refine wp_region_any hm ?_
  have I0 : InvJ J G l.toArray n ss a (Array.replicate l.toArray.size false) (fun k => match ss[k]? with | some (.is u, _) => u | _ => undef) a { w with drawn := w.drawn + 1 } := by
    refine ⟨⟨by simp, fun j oj _ hl => (by rw [getD_replicate_false] at hl; cases hl), fun t _ ht => getD_in (by simpa using ht) (getD_replicate_false _ _)⟩, (by rw [none_listed]; exact hJ0), ?_, ?_, ?_, ?_⟩
    · have : ∀ m, upto l.toArray (fun k => (Array.replicate l.toArray.size false).getD k false) (fun k => match ss[k]? with | some (.is u, _) => u | _ => undef) a m = a := by
        intro m
        induction m with
        | zero => rfl
        | succ m ih =>
          simp only [upto, getD_replicate_false, Bool.false_eq_true, if_false]
          simp only [getD_replicate_false] at ih
          exact ih
      exact (this n).symm
    · intro k s hl; rw [getD_replicate_false] at hl; cases hl
    · intro k s hl; rw [getD_replicate_false] at hl; cases hl
    · intro k s u hs hu
      obtain ⟨sp, ns⟩ := s
      simp only at hu
      subst hu
      simp only [hs]
  have := InvJ.any (P := P) hG M (Q := Q) (tl := l.drop n) (fun j => by simp [List.getElem?_drop]) (by simp)
    (fun x hx i hi => (pick x hx).1 i (by omega) (by omega))
    (fun x hx w' hg hok => by
      have hf := (pick x hx).2 w' hg
      rw [Nat.zero_add] at hf
      exact allF_spec hf (factsOf_mem n (fun j s hj hs => hok j s hj hs)))
    n _ _ _ _ I0 (left_fresh _ n)
  have e : n + (l.toArray.size - n) = l.toArray.size := by simp; omega
  rw [e] at this
  exact this

/-! ### The walk's steps -/
section
variable {fin : List (Nat × (World → Prop)) → Act → Prop} {l : List Oper} {k : Nat} {fs : List (Nat × (World → Prop))} {a : Act} {o : Oper} {ns : List Nat}

theorem MonoJ.is {u : Value} (hw : Region.wanted o (yielded ops a.tmps) = true)
    (hob : ∀ L w, L k = false → Shut n bs L → Ahead n bs L k → J L w → needs fs w ns (wpList P ops (MonoQ o fun v w' => (G w w' ∧ J (setL L k) w') ∧ v = u) [o] a w))
    (hrest : MonoJ G J bs n P ops fin l ss (k + 1) fs (a.put o.dst u)) : MonoJ G J bs n P ops fin (o :: l) ((.is u, ns) :: ss) k fs a := by
  unfold MonoJ
  rw [if_pos hw]
  exact ⟨⟨Spec.upR_is G u, hob⟩, hrest⟩

theorem MonoJ.pr {R : Value → World → Prop} (hw : Region.wanted o (yielded ops a.tmps) = true) (hup : ∀ v w w', G w w' → R v w → R v w')
    (hob : ∀ L w, L k = false → Shut n bs L → Ahead n bs L k → J L w → needs fs w ns (wpList P ops (MonoQ o fun v w' => (G w w' ∧ J (setL L k) w') ∧ R v w') [o] a w))
    (hrest : ∀ v, MonoJ G J bs n P ops fin l ss (k + 1) ((k, R v) :: fs) (a.put o.dst v)) : MonoJ G J bs n P ops fin (o :: l) ((.pr R, ns) :: ss) k fs a := by
  unfold MonoJ
  rw [if_pos hw]
  exact ⟨⟨hup, hob⟩, hrest⟩

theorem MonoJ.is0 {u : Value} (hw : Region.wanted o (yielded ops a.tmps) = true)
    (hob : ∀ L w, L k = false → Shut n bs L → Ahead n bs L k → J L w → wpList P ops (MonoQ o fun v w' => (G w w' ∧ J (setL L k) w') ∧ v = u) [o] a w)
    (hrest : ∀ k' a', k' = k + 1 → a' = a.put o.dst u → MonoJ G J bs n P ops fin l ss k' fs a') : MonoJ G J bs n P ops fin (o :: l) ((.is u, []) :: ss) k fs a := MonoJ.is hw hob (hrest _ _ rfl rfl)

theorem MonoJ.pr0 {R : Value → World → Prop} (hw : Region.wanted o (yielded ops a.tmps) = true) (hup : ∀ v w w', G w w' → R v w → R v w')
    (hob : ∀ L w, L k = false → Shut n bs L → Ahead n bs L k → J L w → wpList P ops (MonoQ o fun v w' => (G w w' ∧ J (setL L k) w') ∧ R v w') [o] a w)
    (hrest : ∀ v k' a', k' = k + 1 → a' = a.put o.dst v → MonoJ G J bs n P ops fin l ss k' ((k, R v) :: fs) a') : MonoJ G J bs n P ops fin (o :: l) ((.pr R, []) :: ss) k fs a := MonoJ.pr hw hup hob (fun v => hrest v _ _ rfl rfl)

theorem MonoJ.is1 {u : Value} {i : Nat} (hw : Region.wanted o (yielded ops a.tmps) = true)
    (hob : ∀ L w, L k = false → Shut n bs L → Ahead n bs L k → J L w → factAt fs i w → wpList P ops (MonoQ o fun v w' => (G w w' ∧ J (setL L k) w') ∧ v = u) [o] a w)
    (hrest : ∀ k' a', k' = k + 1 → a' = a.put o.dst u → MonoJ G J bs n P ops fin l ss k' fs a') : MonoJ G J bs n P ops fin (o :: l) ((.is u, [i]) :: ss) k fs a := MonoJ.is hw hob (hrest _ _ rfl rfl)

theorem MonoJ.pr1 {R : Value → World → Prop} {i : Nat} (hw : Region.wanted o (yielded ops a.tmps) = true) (hup : ∀ v w w', G w w' → R v w → R v w')
    (hob : ∀ L w, L k = false → Shut n bs L → Ahead n bs L k → J L w → factAt fs i w → wpList P ops (MonoQ o fun v w' => (G w w' ∧ J (setL L k) w') ∧ R v w') [o] a w)
    (hrest : ∀ v k' a', k' = k + 1 → a' = a.put o.dst v → MonoJ G J bs n P ops fin l ss k' ((k, R v) :: fs) a') : MonoJ G J bs n P ops fin (o :: l) ((.pr R, [i]) :: ss) k fs a := MonoJ.pr hw hup hob (fun v => hrest v _ _ rfl rfl)

theorem MonoJ.is2 {u : Value} {i j : Nat} (hw : Region.wanted o (yielded ops a.tmps) = true)
    (hob : ∀ L w, L k = false → Shut n bs L → Ahead n bs L k → J L w → factAt fs i w → factAt fs j w → wpList P ops (MonoQ o fun v w' => (G w w' ∧ J (setL L k) w') ∧ v = u) [o] a w)
    (hrest : ∀ k' a', k' = k + 1 → a' = a.put o.dst u → MonoJ G J bs n P ops fin l ss k' fs a') : MonoJ G J bs n P ops fin (o :: l) ((.is u, [i, j]) :: ss) k fs a := MonoJ.is hw hob (hrest _ _ rfl rfl)

theorem MonoJ.pr2 {R : Value → World → Prop} {i j : Nat} (hw : Region.wanted o (yielded ops a.tmps) = true) (hup : ∀ v w w', G w w' → R v w → R v w')
    (hob : ∀ L w, L k = false → Shut n bs L → Ahead n bs L k → J L w → factAt fs i w → factAt fs j w → wpList P ops (MonoQ o fun v w' => (G w w' ∧ J (setL L k) w') ∧ R v w') [o] a w)
    (hrest : ∀ v k' a', k' = k + 1 → a' = a.put o.dst v → MonoJ G J bs n P ops fin l ss k' ((k, R v) :: fs) a') : MonoJ G J bs n P ops fin (o :: l) ((.pr R, [i, j]) :: ss) k fs a := MonoJ.pr hw hup hob (fun v => hrest v _ _ rfl rfl)

theorem MonoJ.no (hw : Region.wanted o (yielded ops a.tmps) = false) (hskip : ∀ L w, L k = false → J L w → J (setL L k) w) (hrest : ∀ k' a', k' = k + 1 → a' = a.put o.dst undef → MonoJ G J bs n P ops fin l ss k' fs a') :
    MonoJ G J bs n P ops fin (o :: l) ((.is undef, ns) :: ss) k fs a := by
  unfold MonoJ
  rw [if_neg (by rw [hw]; simp)]
  exact ⟨⟨rfl, hskip⟩, hrest _ _ rfl rfl⟩

theorem MonoJ.done (h : fin fs a) : MonoJ G J bs n P ops fin [] [] k fs a := h
end
end
/-- Some operations (ks, in this order) turn the world step by step: I m is what stands behind m of them. -/
def ChainJ (ks : List Nat) (I : Nat → World → Prop) (L : Nat → Bool) (w : World) : Prop := ∃ m, (∀ i k, ks[i]? = some k → L k = decide (i < m)) ∧ I m w
theorem chain_start {ks : List Nat} {I : Nat → World → Prop} {w : World} (h : I 0 w) : ChainJ ks I (fun _ => false) w := ⟨0, fun i k _ => by simp, h⟩
theorem chain_pure {ks : List Nat} {I : Nat → World → Prop} {L : Nat → Bool} {w w' : World} {k : Nat} (hk : ks.contains k = false) (hI : ∀ m, I m w → I m w') (h : ChainJ ks I L w) : ChainJ ks I (setL L k) w' := by
  obtain ⟨m, h1, h2⟩ := h
  refine ⟨m, fun i k' hi => ?_, hI m h2⟩
  unfold setL
  by_cases he : k' = k
  · subst he
    have : ks.contains k' = true := List.contains_iff_mem.2 (List.mem_of_getElem? hi)
    rw [this] at hk; cases hk
  · rw [if_neg he]; exact h1 i k' hi
theorem chain_at {ks : List Nat} {I : Nat → World → Prop} {L : Nat → Bool} {w : World} {i k : Nat} (hk : ks[i]? = some k) (hL : L k = false) (hp : ∀ j, i = j + 1 → ∃ k', ks[j]? = some k' ∧ L k' = true) (h : ChainJ ks I L w) : I i w ∧ ∀ j k', ks[j]? = some k' → L k' = decide (j < i) := by
  obtain ⟨m, h1, h2⟩ := h
  have e1 := h1 i k hk
  rw [hL] at e1
  have hm : ¬ i < m := of_decide_eq_false e1.symm
  have : m = i := by
    rcases i with _ | j
    · omega
    · obtain ⟨k', hk', hL'⟩ := hp j rfl
      have e2 := h1 j k' hk'
      rw [hL'] at e2
      have := of_decide_eq_true e2.symm
      omega
  subst this
  exact ⟨h2, h1⟩
theorem chain_step {ks : List Nat} {I : Nat → World → Prop} {L : Nat → Bool} {w' : World} {i k : Nat} (hk : ks[i]? = some k) (hn : ∀ j, ks[j]? = some k → j = i) (hL : ∀ j k', ks[j]? = some k' → L k' = decide (j < i)) (hI : I (i + 1) w') : ChainJ ks I (setL L k) w' := by
  refine ⟨i + 1, fun j k' hj => ?_, hI⟩
  unfold setL
  by_cases he : k' = k
  · subst he
    rw [if_pos rfl, hn j hj]; simp
  · rw [if_neg he, hL j k' hj]
    have : j ≠ i := fun e => he (by subst e; rw [hk] at hj; exact (Option.some.inj hj).symm)
    by_cases h : j < i
    · rw [decide_eq_true h, decide_eq_true (by omega)]
    · rw [decide_eq_false h, decide_eq_false (by omega)]
theorem chain_none {ks : List Nat} {I : Nat → World → Prop} {L : Nat → Bool} {w : World} {k : Nat} (hk : ks[0]? = some k) (hL : L k = false) (h : ChainJ ks I L w) : I 0 w :=
  (chain_at hk hL (fun j h => by cases h) h).1
theorem shut_off {n : Nat} {bs : Array Nat} {L : Nat → Bool} {i k : Nat} (hsh : Shut n bs L) (hi : i < n) (hk : k < n) (hLi : L i = false) (hb : (bs.getD k 0).testBit i = true) : L k = false := by
  cases h : L k with
  | false => rfl
  | true => rw [hsh k i hk hi h hb] at hLi; cases hLi
theorem chain_end {ks : List Nat} {I : Nat → World → Prop} {n : Nat} {w : World} (hall : ∀ k ∈ ks, k < n) (h : ChainJ ks I (fun k => decide (k < n)) w) : ∃ m, ks.length ≤ m ∧ I m w := by
  obtain ⟨m, h1, h2⟩ := h
  refine ⟨m, ?_, h2⟩
  rcases Nat.lt_or_ge m ks.length with hlt | hge
  · have e := h1 m ks[m] (List.getElem?_eq_getElem hlt)
    simp only [decide_eq_true (hall _ (List.getElem_mem hlt))] at e
    have := of_decide_eq_true e.symm
    omega
  · exact hge

end Go.Proofs.Ythcmdjaccjghjaa
