/-
  A region that draws its order, walked once: every operation hands back a value that meets its own specification, in any world that holds what the region began with.
  Plain theorems over any program. Nothing here speaks of one program.
-/
import Derived.StillTail
import Derived.Below
import Derived.WalkKit
namespace Go.Proofs.Ythcmdjaccjghjaa
open Go Go.RowKit

/-- Whatever blocks were there are there still, and hold what they held. -/
def Grows (w w' : World) : Prop := Below w.heap.size w w'

theorem Grows.refl (w : World) : Grows w w := Below.refl _ _
theorem Grows.trans {a b c : World} (h : Grows a b) (k : Grows b c) : Grows a c := Below.trans h (k.mono h.size)
theorem Grows.drew {a w : World} (h : Grows a w) : Grows a w.drew := Below.drew h
theorem Grows.alloc {a w : World} (h : Grows a w) (o : Obj) : Grows a (w.alloc o) := Below.alloc h h.size o

inductive Spec where
  | is (u : Value)
  | pr (R : Value → World → Prop)

def Spec.ok : Spec → Value → World → Prop
  | .is u, v, _ => v = u
  | .pr R, v, w => R v w

def Spec.Up (s : Spec) : Prop := ∀ v w w', Grows w w' → s.ok v w → s.ok v w'

theorem Spec.up_is (u : Value) : (Spec.is u).Up := fun _ _ _ _ h => h

section
variable {P : Program} {ops : Array Oper}

def Oper.valAt (o : Oper) (a : Act) : Value := match o.dst with | some d => a.tmps.getD d undef | none => undef
def Oper.norm (o : Oper) (v : Value) : Value := match o.dst with | some _ => v | none => undef

def Oper.gives (P : Program) (o : Oper) (a : Act) (w : World) (R : Value → World → Prop) : Prop :=
  match (execOp a.eval o).run P w with
  | .ok (.value v) w' => R v w'
  | .ok .skip w' => R undef w'
  | .ok (.enter f args) w' => Calls P f args w' fun e w'' => ∃ v, e = .returned v ∧ R v w''
  | .ok (.row row args) w' => Rows P row args w' R
  | _ => False

theorem Oper.wp_of_gives {o : Oper} {a : Act} {w : World} {R : Value → World → Prop} {K : Act → World → Prop} {Q : Exit → Act → World → Prop}
    (h : Oper.gives P o a w R) (hK : ∀ v w', R v w' → K (a.put o.dst v) w') : o.wp P a w K Q := by
  unfold Oper.gives at h
  unfold Oper.wp
  generalize (execOp a.eval o).run P w = r at *
  cases r with
  | ok n w' =>
    cases n <;> simp only [Oper.upon] at h ⊢
    case value v => exact hK _ _ h
    case skip => exact hK _ _ h
    case enter f args => exact h.mono fun e w'' ⟨v, he, hr⟩ => by subst he; exact hK _ _ hr
    case row row args => exact Rows.mono h fun v w'' hr => hK _ _ hr
  | halt x w' => exact h.elim

def MonoQ (o : Oper) (R : Value → World → Prop) : Exit → Act → World → Prop := fun e a w => e = .normal ∧ a.defers = [] ∧ R (Oper.valAt o a) w

theorem valAt_put {o : Oper} {a : Act} {v : Value} (hd : ∀ d, o.dst = some d → d < a.tmps.size) : Oper.valAt o (a.put o.dst v) = Oper.norm o v := by
  unfold Oper.valAt Oper.norm
  cases h : o.dst with
  | none => rfl
  | some d =>
    have := hd d h
    simp [Act.put, this]

theorem gives_of_wpList {o : Oper} {a : Act} {w : World} {R : Value → World → Prop} (hd : ∀ d, o.dst = some d → d < a.tmps.size)
    (hw : Region.wanted o (yielded ops a.tmps) = true) (h : wpList P ops (MonoQ o R) [o] a w) : Oper.gives P o a w (fun v w' => R (Oper.norm o v) w') := by
  unfold wpList at h
  rw [if_pos hw] at h
  rcases h with h | ⟨_, a', w', h', _⟩
  case inr => cases h'
  unfold Oper.wp at h
  unfold Oper.gives
  generalize (execOp a.eval o).run P w = r at *
  cases r with
  | ok n w' =>
    cases n <;> simp only [Oper.upon] at h ⊢
    case value v => have := h.2.2; rw [valAt_put hd] at this; exact this
    case skip => have := h.2.2; rw [valAt_put hd] at this; exact this
    case defer d => have := h.2.1; cases ho : o.dst <;> simp [Act.put, ho] at this
    case enter f args =>
      refine h.mono fun e w'' he => ?_
      cases e with
      | returned v => exact ⟨v, rfl, by have := he.2.2; rw [valAt_put hd] at this; exact this⟩
      | panicked c => exact absurd he.1 (by simp)
      | outgrown => obtain ⟨a', w', h', _⟩ := he; cases h'
    case row row args => exact Rows.mono h fun v w'' hr => by have := hr.2.2; rw [valAt_put hd] at this; exact this
  | halt x w' =>
    cases x <;> simp only [Oper.upon] at h
    case panic u => exact absurd h.1 (by simp)

/-! ### The act after some of the operations -/

def upto (ops : Array Oper) (L : Nat → Bool) (x : Nat → Value) (a : Act) : Nat → Act
  | 0 => a
  | k + 1 => if L k then (upto ops L x a k).put ((ops[k]?).bind (·.dst)) (x k) else upto ops L x a k

theorem upto_congr {L L' : Nat → Bool} {x x' : Nat → Value} {a : Act} : ∀ {n : Nat}, (∀ k, k < n → L k = L' k) → (∀ k, k < n → L k = true → x k = x' k) → upto ops L x a n = upto ops L' x' a n
  | 0, _, _ => rfl
  | n + 1, h, h' => by
    have ih := upto_congr (a := a) (n := n) (fun k hk => h k (by omega)) (fun k hk => h' k (by omega))
    simp only [upto]
    rw [← h n (by omega), ih]
    split
    · rename_i hl; rw [h' n (by omega) hl]
    · rfl

theorem put_defers' (a : Act) (d : Option Tmp) (v : Value) : (a.put d v).defers = a.defers := by cases d <;> rfl
theorem put_size (a : Act) (d : Option Tmp) (v : Value) : (a.put d v).tmps.size = a.tmps.size := by cases d <;> simp [Act.put]
theorem upto_defers (L : Nat → Bool) (x : Nat → Value) (a : Act) : ∀ n, (upto ops L x a n).defers = a.defers
  | 0 => rfl
  | n + 1 => by simp only [upto]; split <;> simp [put_defers', upto_defers L x a n]
theorem upto_size (L : Nat → Bool) (x : Nat → Value) (a : Act) : ∀ n, (upto ops L x a n).tmps.size = a.tmps.size
  | 0 => rfl
  | n + 1 => by simp only [upto]; split <;> simp [put_size, upto_size L x a n]

theorem upto_miss {L : Nat → Bool} {x : Nat → Value} {a : Act} {t : Tmp} : ∀ {n : Nat}, (∀ k, k < n → L k = true → (ops[k]?).bind (·.dst) ≠ some t) → (upto ops L x a n).tmps[t]? = a.tmps[t]?
  | 0, _ => rfl
  | n + 1, h => by
    have ih := upto_miss (L := L) (x := x) (a := a) (t := t) (n := n) (fun k hk => h k (by omega))
    simp only [upto]
    split
    · rename_i hl
      have hne := h n (by omega) hl
      cases hd : (ops[n]?).bind (·.dst) with
      | none => exact ih
      | some d =>
        have : d ≠ t := fun e => hne (by rw [hd, e])
        simp only [Act.put]
        rw [Array.getElem?_setIfInBounds_ne this]
        exact ih
    · exact ih

theorem upto_hit {L : Nat → Bool} {x : Nat → Value} {a : Act} {t : Tmp} {j : Nat} (hj : L j = true) (hd : (ops[j]?).bind (·.dst) = some t) :
    ∀ {n : Nat}, j < n → (∀ k, k < n → k ≠ j → (ops[k]?).bind (·.dst) ≠ some t) → (upto ops L x a n).tmps[t]? = (a.tmps.setIfInBounds t (x j))[t]?
  | 0, h, _ => absurd h (by omega)
  | n + 1, hlt, h => by
    simp only [upto]
    by_cases hjn : j = n
    · subst hjn
      rw [if_pos hj, hd]
      have hs := upto_size (ops := ops) L x a j
      simp only [Act.put, Array.getElem?_setIfInBounds_self, hs]
    · have ih := upto_hit (x := x) (a := a) hj hd (n := n) (by omega) (fun k hk => h k (by omega))
      split
      · have hne := h n (by omega) (Ne.symm hjn)
        cases hd' : (ops[n]?).bind (·.dst) with
        | none => exact ih
        | some d =>
          have : d ≠ t := fun e => hne (by rw [hd', e])
          simp only [Act.put]
          rw [Array.getElem?_setIfInBounds_ne this]
          exact ih
      · exact ih

/-- One more operation's value. -/
theorem upto_add {L : Nat → Bool} {x : Nat → Value} {a : Act} {i : Nat} {v : Value} (hi : L i = false) :
    ∀ {n : Nat}, i < n → (∀ k, k < n → k ≠ i → ∀ d, (ops[i]?).bind (·.dst) = some d → (ops[k]?).bind (·.dst) ≠ some d) →
      upto ops (fun k => if k = i then true else L k) (fun k => if k = i then v else x k) a n = (upto ops L x a n).put ((ops[i]?).bind (·.dst)) v
  | 0, h, _ => absurd h (by omega)
  | n + 1, hlt, h => by
    by_cases hin : i = n
    · subst hin
      have e : upto ops (fun k => if k = i then true else L k) (fun k => if k = i then v else x k) a i = upto ops L x a i :=
        upto_congr (fun k hk => by rw [if_neg (by omega)]) (fun k hk _ => by rw [if_neg (by omega)])
      simp only [upto, e, if_true, hi, Bool.false_eq_true, if_false]
    · have ih := upto_add (x := x) (a := a) (v := v) hi (n := n) (by omega) (fun k hk => h k (by omega))
      have hni : n ≠ i := Ne.symm hin
      simp only [upto, ih, if_neg hni]
      split
      · exact Act.put_comm _ _ _ (fun d hd => h n (by omega) hni d hd)
      · rfl

/-! ### The walk -/

def factAt : List (Nat × (World → Prop)) → Nat → World → Prop
  | [], _, _ => True
  | (j, F) :: fs, i, w => if j = i then F w else factAt fs i w

def needs (fs : List (Nat × (World → Prop))) (w : World) : List Nat → Prop → Prop
  | [], g => g
  | i :: l, g => factAt fs i w → needs fs w l g

def allF (w : World) : List (Nat × (World → Prop)) → Prop → Prop
  | [], g => g
  | (_, F) :: fs, g => F w → allF w fs g

theorem needs_spec {fs : List (Nat × (World → Prop))} {w : World} {g : Prop} : ∀ {l : List Nat}, needs fs w l g → (∀ i, i ∈ l → factAt fs i w) → g
  | [], h, _ => h
  | i :: l, h, hf => needs_spec (h (hf i (by simp))) (fun j hj => hf j (by simp [hj]))

theorem allF_spec {w : World} {g : Prop} : ∀ {fs : List (Nat × (World → Prop))}, allF w fs g → (∀ f, f ∈ fs → f.2 w) → g
  | [], h, _ => h
  | (j, F) :: fs, h, hf => allF_spec (fs := fs) (h (hf (j, F) (by simp))) (fun f hm => hf f (by simp [hm]))

def Mono (P : Program) (ops : Array Oper) (w0 : World) (fin : List (Nat × (World → Prop)) → Act → Prop) :
    List Oper → List (Spec × List Nat) → Nat → List (Nat × (World → Prop)) → Act → Prop
  | [], [], _, fs, a => fin fs a
  | o :: l, s :: ss, k, fs, a =>
    (if Region.wanted o (yielded ops a.tmps) = true then s.1.Up ∧ ∀ w, Grows w0 w → needs fs w s.2 (wpList P ops (MonoQ o fun v w' => Grows w w' ∧ s.1.ok v w') [o] a w) else s.1 = .is undef) ∧
    (match s.1 with
     | .is u => Mono P ops w0 fin l ss (k + 1) fs (a.put o.dst u)
     | .pr R => ∀ v, Mono P ops w0 fin l ss (k + 1) ((k, R v) :: fs) (a.put o.dst v))
  | _, _, _, _, _ => False

/-- The facts that the values x give, of the first n operations. -/
def factsOf (ss : List (Spec × List Nat)) (x : Nat → Value) : Nat → List (Nat × (World → Prop))
  | 0 => []
  | k + 1 => match ss[k]? with
    | some (.pr R, _) => (k, R (x k)) :: factsOf ss x k
    | _ => factsOf ss x k

/-- The values fit the specifications that name one. -/
def Fits (ss : List (Spec × List Nat)) (x : Nat → Value) : Prop := ∀ k s u, ss[k]? = some s → s.1 = .is u → x k = u

/-- What the walk asks of operation i. -/
def Asks (P : Program) (ops : Array Oper) (w0 : World) (o : Oper) (s : Spec × List Nat) (fs : List (Nat × (World → Prop))) (a : Act) : Prop :=
  if Region.wanted o (yielded ops a.tmps) = true then s.1.Up ∧ ∀ w, Grows w0 w → needs fs w s.2 (wpList P ops (MonoQ o fun v w' => Grows w w' ∧ s.1.ok v w') [o] a w) else s.1 = .is undef

theorem Mono.pick {w0 : World} {fin : List (Nat × (World → Prop)) → Act → Prop} {SS : List (Spec × List Nat)} {x : Nat → Value} (hx : Fits SS x) {a0 : Act} :
    ∀ (l : List Oper) (ss : List (Spec × List Nat)) (k : Nat), (∀ j, j < l.length → l[j]? = ops[k + j]?) → (∀ j, ss[j]? = SS[k + j]?) →
      Mono P ops w0 fin l ss k (factsOf SS x k) (upto ops (fun _ => true) x a0 k) →
      (∀ i, k ≤ i → i < k + l.length → ∃ o s, ops[i]? = some o ∧ SS[i]? = some s ∧ Asks P ops w0 o s (factsOf SS x i) (upto ops (fun _ => true) x a0 i)) ∧
      fin (factsOf SS x (k + l.length)) (upto ops (fun _ => true) x a0 (k + l.length))
  | [], [], k, _, _, h => ⟨fun i h1 h2 => absurd h2 (by simp; omega), by simpa [Mono] using h⟩
  | [], _ :: _, _, _, _, h => by simp [Mono] at h
  | _ :: _, [], _, _, _, h => by simp [Mono] at h
  | o :: l, s :: ss, k, hl, hs, h => by
    obtain ⟨h1, h2⟩ := h
    have ho : ops[k]? = some o := by have := hl 0 (by simp); simpa using this.symm
    have hsk : SS[k]? = some s := by have := hs 0; simpa using this.symm
    have hnext : Mono P ops w0 fin l ss (k + 1) (factsOf SS x (k + 1)) (upto ops (fun _ => true) x a0 (k + 1)) := by
      obtain ⟨sp, ns⟩ := s
      simp only [factsOf, upto, hsk, ho, Option.bind_some, if_true]
      cases sp with
      | is u =>
        rw [hx k _ u hsk rfl]
        exact h2
      | pr R => exact h2 (x k)
    have ih := Mono.pick hx l ss (k + 1) (fun j hj => by have := hl (j + 1) (by simp; omega); simpa [Nat.add_assoc, Nat.add_comm 1 j] using this)
      (fun j => by have := hs (j + 1); simpa [Nat.add_assoc, Nat.add_comm 1 j] using this) hnext
    refine ⟨fun i hi1 hi2 => ?_, ?_⟩
    · by_cases hik : i = k
      · subst hik
        exact ⟨o, s, ho, hsk, h1⟩
      · exact ih.1 i (by omega) (by simp only [List.length_cons] at hi2; omega)
    · have := ih.2
      rw [List.length_cons, show k + (l.length + 1) = k + 1 + l.length by omega]
      exact this

/-! ### What is asked of the region's edges: a closed Bool -/

def Oper.waits (md : Region.Mode) (o : Oper) (i : Nat) : Bool := o.after.any fun e => Region.binds md e && e.on == i

/-- 'bs': of each operation the set (as bits) of those that are surely done ahead of it. -/
def aheadB (ops : Array Oper) (bs : Array Nat) (n : Nat) : Bool :=
  (List.range n).all fun k => match ops[k]? with
    | none => false
    | some o => (List.range n).all fun i => !(bs.getD k 0).testBit i || o.after.any fun e => Region.binds .any e && decide (e.on < k) && (e.on == i || (bs.getD e.on 0).testBit i)

def monoB (ops : Array Oper) (bs : Array Nat) (n : Nat) (nss : List (List Nat)) (size : Nat) : Bool :=
  Region.noSelect ops && decide (n ≤ ops.size) && (decide (n = ops.size) || (Region.sinkB .any ops n && Region.chainB .any ops n)) &&
  Region.seqB .any ops (ops.size - n) n ((List.replicate n true ++ List.replicate (ops.size - n) false).toArray) &&
  aheadB ops bs n &&
  (List.range n).all fun k => match ops[k]? with
    | none => false
    | some o =>
      (o.after.all fun e => !Region.binds .any e || decide (e.on < k)) &&
      (match o.dst with | some d => decide (d < size) | none => true) &&
      ((nss.getD k []).all fun i => decide (i < k) && (bs.getD k 0).testBit i) &&
      (List.range n).all fun i => i == k || match ops[i]? with
        | none => false
        | some oi => match oi.dst with
          | none => true
          | some d => o.dst != some d && (!(o.looksAt ops).contains d || (bs.getD k 0).testBit i || (bs.getD i 0).testBit k)

/-- 'listed' is closed: what is done has its forerunners done. -/
def Closed (ops : Array Oper) (listed : Array Bool) : Prop :=
  ∀ j oj, ops[j]? = some oj → listed.getD j false = true → ∀ e ∈ oj.after, Region.binds .any e = true → listed.getD e.on false = true

theorem ahead_listed {bs : Array Nat} {n : Nat} (hB : aheadB ops bs n = true) {listed : Array Bool} (hc : Closed ops listed) :
    ∀ (d k : Nat), k = d → k < n → ∀ o, ops[k]? = some o → (∀ e ∈ o.after, Region.binds .any e = true → listed.getD e.on false = true) →
      ∀ i, i < n → (bs.getD k 0).testBit i = true → listed.getD i false = true := by
  intro d
  induction d using Nat.strongRecOn with
  | _ d ih =>
    intro k hkd hk o ho hall i hin hbit
    have h1 := List.all_eq_true.1 hB k (List.mem_range.2 hk)
    simp only [ho] at h1
    have h2 := List.all_eq_true.1 h1 i (List.mem_range.2 hin)
    simp only [hbit, Bool.not_true, Bool.false_or] at h2
    obtain ⟨e, he, hb⟩ := Array.any_eq_true'.1 h2
    simp only [Bool.and_eq_true, decide_eq_true_eq, Bool.or_eq_true, beq_iff_eq] at hb
    obtain ⟨⟨hbind, hlt⟩, hor⟩ := hb
    have hl := hall e he hbind
    rcases hor with rfl | hor
    · exact hl
    · have hlt' : e.on < ops.size := by have := (Array.getElem?_eq_some_iff.1 ho).1; omega
      exact ih e.on (by omega) e.on rfl (by omega) ops[e.on] (Array.getElem?_eq_getElem hlt') (fun e' he' hb' => hc e.on _ (Array.getElem?_eq_getElem hlt') hl e' he' hb') i hin hor

structure MonoOk (ops : Array Oper) (bs : Array Nat) (n : Nat) (nss : List (List Nat)) (size : Nat) : Prop where
  sel : Region.noSelect ops = true
  le : n ≤ ops.size
  tail : n = ops.size ∨ (Region.sinkB .any ops n = true ∧ Region.chainB .any ops n = true)
  seq : Region.seqB .any ops (ops.size - n) n ((List.replicate n true ++ List.replicate (ops.size - n) false).toArray) = true
  ahead : aheadB ops bs n = true
  low : ∀ k o, k < n → ops[k]? = some o → ∀ e ∈ o.after, Region.binds .any e = true → e.on < k
  dst : ∀ k o d, k < n → ops[k]? = some o → o.dst = some d → d < size
  need : ∀ k, k < n → ∀ i ∈ nss.getD k [], i < k ∧ (bs.getD k 0).testBit i = true
  far : ∀ k o i oi d, k < n → ops[k]? = some o → i < n → i ≠ k → ops[i]? = some oi → oi.dst = some d →
    o.dst ≠ some d ∧ (d ∈ o.looksAt ops → (bs.getD k 0).testBit i = true ∨ (bs.getD i 0).testBit k = true)

theorem monoOk {bs : Array Nat} {n : Nat} {nss : List (List Nat)} {size : Nat} (h : monoB ops bs n nss size = true) : MonoOk ops bs n nss size := by
  simp only [monoB, Bool.and_eq_true, decide_eq_true_eq, Bool.or_eq_true] at h
  obtain ⟨⟨⟨⟨⟨h1, h2⟩, h3⟩, h4⟩, h5⟩, h6⟩ := h
  have key : ∀ k o, k < n → ops[k]? = some o → _ := fun k o hk ho => by
    have := List.all_eq_true.1 h6 k (List.mem_range.2 hk)
    simp only [ho, Bool.and_eq_true] at this
    exact this
  refine ⟨h1, h2, h3, h4, h5, fun k o hk ho e he hb => ?_, fun k o d hk ho hd => ?_, fun k hk i hi => ?_, fun k o i oi d hk ho hi hne hoi hd => ?_⟩
  · have := Array.all_eq_true_iff_forall_mem.1 (key k o hk ho).1.1.1 e he
    simpa [hb] using this
  · have := (key k o hk ho).1.1.2
    simpa [hd] using this
  · have hlt : k < ops.size := by omega
    have := List.all_eq_true.1 (key k _ hk (Array.getElem?_eq_getElem hlt)).1.2 i hi
    simpa using this
  · have := List.all_eq_true.1 (key k o hk ho).2 i (List.mem_range.2 hi)
    simp only [hoi, hd, Bool.or_eq_true, beq_iff_eq, hne, false_or, Bool.and_eq_true, bne_iff_ne, Bool.not_eq_true'] at this
    refine ⟨this.1, fun hm => ?_⟩
    rcases this.2 with (h | h) | h
    · have : (o.looksAt ops).contains d = true := by simpa using hm
      rw [h] at this; cases this
    · exact .inl h
    · exact .inr h

theorem ahead_lt {bs : Array Nat} {n : Nat} (hB : aheadB ops bs n = true) : ∀ (d k : Nat), k = d → k < n → ∀ i, i < n → (bs.getD k 0).testBit i = true → i < k := by
  intro d
  induction d using Nat.strongRecOn with
  | _ d ih =>
    intro k hkd hk i hin hbit
    have h1 := List.all_eq_true.1 hB k (List.mem_range.2 hk)
    cases ho : ops[k]? with
    | none => simp [ho] at h1
    | some o =>
      simp only [ho] at h1
      have h2 := List.all_eq_true.1 h1 i (List.mem_range.2 hin)
      simp only [hbit, Bool.not_true, Bool.false_or] at h2
      obtain ⟨e, he, hb⟩ := Array.any_eq_true'.1 h2
      simp only [Bool.and_eq_true, decide_eq_true_eq, Bool.or_eq_true, beq_iff_eq] at hb
      obtain ⟨⟨_, hlt⟩, hor⟩ := hb
      rcases hor with rfl | hor
      · exact hlt
      · have := ih e.on (by omega) e.on rfl (by omega) i hin hor
        omega

theorem factAt_of {ss : List (Spec × List Nat)} {x : Nat → Value} {w : World} {j : Nat} (h : ∀ s, ss[j]? = some s → s.1.ok (x j) w) : ∀ k, factAt (factsOf ss x k) j w
  | 0 => trivial
  | k + 1 => by
    simp only [factsOf]
    split
    · rename_i R ns hs
      simp only [factAt]
      split
      · rename_i hjk
        subst hjk
        exact h _ hs
      · exact factAt_of h k
    · exact factAt_of h k

theorem factsOf_mem {ss : List (Spec × List Nat)} {x : Nat → Value} {w : World} : ∀ (k : Nat), (∀ j s, j < k → ss[j]? = some s → s.1.ok (x j) w) → ∀ f, f ∈ factsOf ss x k → f.2 w
  | 0, _, f, hf => by simp [factsOf] at hf
  | k + 1, h, f, hf => by
    simp only [factsOf] at hf
    split at hf
    · rename_i R ns hs
      rcases List.mem_cons.1 hf with rfl | hf
      · exact h k _ (by omega) hs
      · exact factsOf_mem k (fun j s hj => h j s (by omega)) f hf
    · exact factsOf_mem k (fun j s hj => h j s (by omega)) f hf

structure Inv (ops : Array Oper) (n : Nat) (ss : List (Spec × List Nat)) (w0 : World) (a0 : Act) (listed : Array Bool) (x : Nat → Value) (a : Act) (w : World) : Prop where
  head : HeadInv .any ops n listed
  grows : Grows w0 w
  act : a = upto ops (fun k => listed.getD k false) x a0 n
  up : ∀ k s, listed.getD k false = true → ss[k]? = some s → s.1.Up
  ok : ∀ k s, listed.getD k false = true → ss[k]? = some s → s.1.ok (x k) w
  fits : Fits ss x

variable {bs : Array Nat} {n : Nat} {ss : List (Spec × List Nat)} {w0 : World} {a0 : Act} {nss : List (List Nat)}

theorem slot_same {size : Nat} (M : MonoOk ops bs n nss size) {listed : Array Bool} (hc : Closed ops listed) {x : Nat → Value} {i : Nat} (hi : i < n) {o : Oper} (ho : ops[i]? = some o)
    (hall : ∀ e ∈ o.after, Region.binds .any e = true → listed.getD e.on false = true) (hun : listed.getD i false = false) {t : Tmp} (ht : t ∈ o.looksAt ops) :
    (upto ops (fun _ => true) x a0 i).tmps[t]? = (upto ops (fun k => listed.getD k false) x a0 n).tmps[t]? := by
  have dist : ∀ j oj, j < n → ops[j]? = some oj → oj.dst = some t → ∀ k, k < n → k ≠ j → (ops[k]?).bind (·.dst) ≠ some t := by
    intro j oj hj hoj hd k hk hkj
    have hlt : k < ops.size := by have := M.le; omega
    rw [Array.getElem?_eq_getElem hlt]
    exact (M.far k _ j oj t hk (Array.getElem?_eq_getElem hlt) hj (Ne.symm hkj) hoj hd).1
  by_cases hex : ∃ j, j < n ∧ ∃ oj, ops[j]? = some oj ∧ oj.dst = some t
  · obtain ⟨j, hj, oj, hoj, hd⟩ := hex
    have hdj : (ops[j]?).bind (·.dst) = some t := by rw [hoj]; exact hd
    by_cases hji : j = i
    · subst hji
      rw [upto_miss (fun k hk _ => dist j oj hj hoj hd k (by omega) (by omega))]
      rw [upto_miss (fun k hk hl => by
        by_cases hkj : k = j
        · subst hkj; rw [hun] at hl; cases hl
        · exact dist j oj hj hoj hd k hk hkj)]
    · rcases (M.far i o j oj t hi ho hj hji hoj hd).2 ht with hb | hb
      · have hlj := ahead_listed M.ahead hc i i rfl hi o ho hall j hj hb
        have hlt := ahead_lt M.ahead i i rfl hi j hj hb
        rw [upto_hit (L := fun _ => true) rfl hdj hlt (fun k hk hkj => dist j oj hj hoj hd k (by omega) hkj)]
        rw [upto_hit (L := fun k => listed.getD k false) hlj hdj hj (fun k hk hkj => dist j oj hj hoj hd k hk hkj)]
      · have hlt := ahead_lt M.ahead j j rfl hj i hi hb
        have hnj : listed.getD j false = false := by
          cases hl : listed.getD j false with
          | false => rfl
          | true =>
            have := ahead_listed M.ahead hc j j rfl hj oj hoj (fun e he hb' => hc j oj hoj hl e he hb') i hi hb
            rw [hun] at this; cases this
        rw [upto_miss (fun k hk _ => dist j oj hj hoj hd k (by omega) (by omega))]
        rw [upto_miss (fun k hk hl => by
          by_cases hkj : k = j
          · subst hkj; rw [hnj] at hl; cases hl
          · exact dist j oj hj hoj hd k hk hkj)]
  · have hm : ∀ k, k < n → (ops[k]?).bind (·.dst) ≠ some t := fun k hk he => by
      have hlt : k < ops.size := by have := M.le; omega
      rw [Array.getElem?_eq_getElem hlt] at he
      exact hex ⟨k, hk, ops[k], Array.getElem?_eq_getElem hlt, he⟩
    rw [upto_miss (fun k hk _ => hm k (by omega)), upto_miss (fun k hk _ => hm k hk)]

theorem eval_same {o : Oper} {a a' : Act} (h : ∀ t, t ∈ o.looksAt ops → a.tmps[t]? = a'.tmps[t]?) (hs : ∀ cs b, o.op ≠ .select cs b) : execOp a.eval o = execOp a'.eval o :=
  execOp_congr o hs fun y hy => by
    cases y with
    | tmp t =>
      have := h t (List.mem_append_left _ (List.mem_filterMap.2 ⟨.tmp t, by simpa using hy, rfl⟩))
      simp only [Act.eval, Array.getD_eq_getD_getElem?, this]
    | _ => rfl

theorem wanted_same {o : Oper} {a a' : Act} (h : ∀ t, t ∈ o.looksAt ops → a.tmps[t]? = a'.tmps[t]?) : Region.wanted o (yielded ops a.tmps) = Region.wanted o (yielded ops a'.tmps) := by
  unfold Region.wanted
  cases hg : o.guard with
  | none => rfl
  | some gw =>
    obtain ⟨g, want⟩ := gw
    have hy : yielded ops a.tmps g = yielded ops a'.tmps g := by
      unfold yielded
      cases ht : (ops[g]?).bind (·.dst) with
      | none => rfl
      | some t =>
        have := h t (by simp [Oper.looksAt, hg, ht])
        simp only [Option.bind_some, this]
    simp only [hy]

/-- One operation, whenever it comes up. -/
theorem Inv.step (M : MonoOk ops bs n (ss.map (·.2)) a0.tmps.size) {listed : Array Bool} {x : Nat → Value} {a : Act} {w : World} (I : Inv ops n ss w0 a0 listed x a w)
    (asks : ∀ x, Fits ss x → ∀ i, i < n → ∃ o s, ops[i]? = some o ∧ ss[i]? = some s ∧ Asks P ops w0 o s (factsOf ss x i) (upto ops (fun _ => true) x a0 i))
    {i : Nat} (hr : i ∈ Region.ready .any ops listed) (hi : i < n) {K : Act → World → Prop} {Q : Exit → Act → World → Prop}
    (hK : ∀ x' a' w', Inv ops n ss w0 a0 (listed.setIfInBounds i true) x' a' w' → K a' w') : wpOp P ops Q i K a w := by
  obtain ⟨o, s, ho, hs, hask⟩ := asks x I.fits i hi
  obtain ⟨hun, o', ho', hall⟩ := mem_ready.1 hr
  obtain rfl : o = o' := Option.some.inj (ho.symm.trans ho')
  have hun := getD_both hun
  have hc : Closed ops listed := I.head.closed
  have same : ∀ t, t ∈ o.looksAt ops → (upto ops (fun _ => true) x a0 i).tmps[t]? = a.tmps[t]? := fun t ht => by
    rw [I.act]; exact slot_same M hc hi ho hall hun ht
  have hsel : ∀ cs b, o.op ≠ .select cs b := fun cs b => Region.noSelect_spec M.sel i o cs b ho
  have next : ∀ v w', Grows w w' → s.1.Up → s.1.ok (Oper.norm o v) w' → K (a.put o.dst v) w' := by
    intro v w' hg hup hok
    refine hK (fun k => if k = i then Oper.norm o v else x k) _ _ ⟨I.head.set hr hi, I.grows.trans hg, ?_, fun k sk hl hsk => ?_, fun k sk hl hsk => ?_, fun k sk u hsk hu => ?_⟩
    · have e1 : upto ops (fun k => (listed.setIfInBounds i true).getD k false) (fun k => if k = i then Oper.norm o v else x k) a0 n =
          upto ops (fun k => if k = i then true else listed.getD k false) (fun k => if k = i then Oper.norm o v else x k) a0 n :=
        upto_congr (fun k hk => by
          by_cases hki : k = i
          · subst hki
            have : k < listed.size := by rw [I.head.size]; have := M.le; omega
            simp [this]
          · rw [getD_set_ne false (Ne.symm hki), if_neg hki]) (fun _ _ _ => rfl)
      rw [e1, upto_add hun hi (fun k hk hki d hd => by
        have hlt : k < ops.size := by have := M.le; omega
        rw [Array.getElem?_eq_getElem hlt]
        rw [ho] at hd
        exact (M.far k _ i o d hk (Array.getElem?_eq_getElem hlt) hi (Ne.symm hki) ho hd).1), ← I.act, ho]
      cases hd : o.dst with
      | none => simp [Act.put, hd]
      | some d => simp [Oper.norm, hd]
    · by_cases hki : k = i
      · subst hki
        obtain rfl : sk = s := Option.some.inj (hsk.symm.trans hs)
        exact hup
      · rw [getD_set_ne false (Ne.symm hki)] at hl
        exact I.up k sk hl hsk
    · by_cases hki : k = i
      · subst hki
        obtain rfl : sk = s := Option.some.inj (hsk.symm.trans hs)
        simpa using hok
      · rw [getD_set_ne false (Ne.symm hki)] at hl
        simp only [if_neg hki]
        exact I.up k sk hl hsk _ _ _ hg (I.ok k sk hl hsk)
    · by_cases hki : k = i
      · subst hki
        obtain rfl : sk = s := Option.some.inj (hsk.symm.trans hs)
        simp only [if_true]
        rw [hu] at hok
        exact hok
      · simp only [if_neg hki]
        exact I.fits k sk u hsk hu
  unfold wpOp
  simp only [ho]
  unfold Asks at hask
  rw [wanted_same same] at hask
  by_cases hw : Region.wanted o (yielded ops a.tmps) = true
  · rw [if_pos hw] at hask ⊢
    left
    obtain ⟨hup, hob⟩ := hask
    have hwl := needs_spec (hob w I.grows) (fun j hj => by
      have hn := M.need i hi j (by rw [show (List.map (·.2) ss).getD i [] = s.2 by simp [hs]]; exact hj)
      have hjn : j < n := by omega
      have hlj := ahead_listed M.ahead hc i i rfl hi o ho hall j hjn hn.2
      exact factAt_of (fun sj hsj => I.ok j sj hlj hsj) i)
    have hg := gives_of_wpList (fun d hd => by rw [upto_size]; exact M.dst i o d hi ho hd) (by rw [wanted_same same]; exact hw) hwl
    unfold Oper.gives at hg
    rw [eval_same same hsel] at hg
    exact Oper.wp_of_gives (P := P) (o := o) (a := a) (w := w) (R := fun v w' => Grows w w' ∧ s.1.ok (Oper.norm o v) w') hg (fun v w' hvw => next v w' hvw.1 hup hvw.2)
  · rw [if_neg hw] at hask
    simp only [hw]
    refine next undef w (Grows.refl w) (by rw [hask]; exact Spec.up_is _) ?_
    rw [hask]
    show Oper.norm o undef = undef
    unfold Oper.norm
    split <;> rfl

/-- How many are still to do. -/
def left (listed : Array Bool) : Nat → Nat
  | 0 => 0
  | k + 1 => left listed k + if listed.getD k false then 0 else 1

theorem left_set {listed : Array Bool} {i : Nat} (hsz : i < listed.size) (hun : listed.getD i false = false) : ∀ n, i < n → left (listed.setIfInBounds i true) n + 1 = left listed n
  | 0, h => absurd h (by omega)
  | n + 1, h => by
    have same : ∀ k, k ≤ i → left (listed.setIfInBounds i true) k = left listed k := by
      intro k
      induction k with
      | zero => intro _; rfl
      | succ k ih => intro hk; simp only [left, ih (by omega)]; rw [getD_set_ne false (by omega)]
    by_cases hin : i = n
    · subst hin
      simp only [left, same i (Nat.le_refl _), hun]
      have : (listed.setIfInBounds i true).getD i false = true := by simp [hsz]
      rw [this]; simp
    · have ih := left_set hsz hun n (by omega)
      simp only [left]
      rw [getD_set_ne false hin]
      omega

theorem left_zero {listed : Array Bool} : ∀ n, left listed n = 0 → ∀ k, k < n → listed.getD k false = true
  | 0, _, k, hk => absurd hk (by omega)
  | n + 1, h, k, hk => by
    simp only [left] at h
    by_cases hkn : k = n
    · subst hkn
      cases hl : listed.getD k false with
      | true => rfl
      | false => rw [hl] at h; simp at h
    · exact left_zero n (by omega) k (by omega)

theorem left_pos {listed : Array Bool} : ∀ n, 0 < left listed n → ∃ k, k < n ∧ listed.getD k false = false ∧ ∀ j, j < k → listed.getD j false = true
  | 0, h => by simp [left] at h
  | n + 1, h => by
    by_cases h0 : 0 < left listed n
    · obtain ⟨k, hk, h1, h2⟩ := left_pos n h0
      exact ⟨k, by omega, h1, h2⟩
    · have hz : left listed n = 0 := by omega
      simp only [left, hz, Nat.zero_add] at h
      refine ⟨n, by omega, ?_, fun j hj => left_zero n hz j hj⟩
      cases hl : listed.getD n false with
      | false => rfl
      | true => rw [hl] at h; simp at h

theorem left_fresh (m : Nat) : ∀ n, left (Array.replicate m false) n = n
  | 0 => rfl
  | n + 1 => by simp only [left, left_fresh m n, getD_replicate_false]; simp

theorem Inv.any (M : MonoOk ops bs n (ss.map (·.2)) a0.tmps.size) {Q : Exit → Act → World → Prop} {tl : List Oper} (htl : ∀ j, tl[j]? = ops[n + j]?) (htl' : tl.length = ops.size - n)
    (asks : ∀ x, Fits ss x → ∀ i, i < n → ∃ o s, ops[i]? = some o ∧ ss[i]? = some s ∧ Asks P ops w0 o s (factsOf ss x i) (upto ops (fun _ => true) x a0 i))
    (fin : ∀ x, Fits ss x → ∀ w, Grows w0 w → (∀ k s, k < n → ss[k]? = some s → s.1.ok (x k) w) → wpList P ops Q tl (upto ops (fun _ => true) x a0 n) w) :
    ∀ (m : Nat) (listed : Array Bool) (x : Nat → Value) (a : Act) (w : World), Inv ops n ss w0 a0 listed x a w → left listed n = m → wpAny P .any ops Q (m + (ops.size - n)) listed a w := by
  intro m
  induction m with
  | zero =>
    intro listed x a w I hm
    have hall := left_zero n hm
    have hle := M.le
    have hl : listed = (List.replicate n true ++ List.replicate (ops.size - n) false).toArray := by
      apply Array.ext
      · rw [I.head.size]; simp; omega
      · intro k hk1 hk2
        by_cases hkn : k < n
        · have := hall k hkn
          simp only [Array.getD_eq_getD_getElem?, Array.getElem?_eq_getElem hk1, Option.getD_some] at this
          rw [this]
          simp [hkn]
        · have := I.head.tail k (by omega) (by rw [← I.head.size]; exact hk1)
          simp only [Array.getD_eq_getD_getElem?, Array.getElem?_eq_getElem hk1, Option.getD_some] at this
          rw [this]
          simp [List.getElem_append, hkn]
    rw [Nat.zero_add, ← htl']
    refine wpAny_of_seq tl n listed a w htl (by rw [htl', hl]; exact M.seq) ?_
    have e : a = upto ops (fun _ => true) x a0 n := by
      rw [I.act]
      exact upto_congr (fun k hk => hall k hk) (fun _ _ _ => rfl)
    rw [e]
    exact fin x I.fits w I.grows (fun k s hk hs => I.ok k s (hall k hk) hs)
  | succ m ih =>
    intro listed x a w I hm
    obtain ⟨k, hk, hun, hbefore⟩ := left_pos n (by omega : 0 < left listed n)
    have hlt : k < ops.size := by have := M.le; omega
    have hkr : k ∈ Region.ready .any ops listed := by
      rw [mem_ready]
      refine ⟨getD_in (by rw [I.head.size]; exact hlt) hun, ops[k], Array.getElem?_eq_getElem hlt, fun e he hb => ?_⟩
      exact hbefore _ (M.low k _ hk (Array.getElem?_eq_getElem hlt) e he hb)
    rw [show m + 1 + (ops.size - n) = (m + (ops.size - n)) + 1 by omega]
    refine ⟨fun h0 => (by rw [h0] at hkr; cases hkr), fun i hi => ?_⟩
    have hin : i < n := by
      rcases M.tail with h | ⟨h1, h2⟩
      · obtain ⟨_, oi, hoi, _⟩ := mem_ready.1 hi
        have := (Array.getElem?_eq_some_iff.1 hoi).1
        omega
      · by_cases hn : n < ops.size
        · rcases Nat.lt_or_ge i n with h | h
          · exact h
          · exact absurd hi (tail_waits h1 h2 hn I.head _ k rfl hk (mem_ready.1 hkr).1 i h)
        · obtain ⟨_, oi, hoi, _⟩ := mem_ready.1 hi
          have := (Array.getElem?_eq_some_iff.1 hoi).1
          omega
    have hun' := getD_both (mem_ready.1 hi).1
    refine I.step M asks hi hin (fun x' a' w' I' => ih _ _ _ _ I' ?_)
    have := left_set (listed := listed) (by rw [I.head.size]; have := M.le; omega) hun' n hin
    omega

/-- **A REGION THAT DRAWS ITS ORDER, WALKED ONCE.** The first n operations each by its own specification, the others in their order. -/
theorem wp_region_mono {id : Nat} {Q : Exit → Act → World → Prop} {a : Act} {w : World} {l : List Oper} (n : Nat) (ss : List (Spec × List Nat)) (hm : P.follows .mixedOrders = true)
    (hB : monoB l.toArray (Region.before l.toArray) n (ss.map (·.2)) a.tmps.size = true)
    (h : Mono P l.toArray w (fun fs a' => ∀ w', Grows w w' → allF w' fs (wpList P l.toArray Q (l.drop n) a' w')) (l.take n) ss 0 [] a) : (Code.region id l.toArray true).wp P Q a w := by
  have M := monoOk hB
  have hn : n ≤ l.length := by have := M.le; simpa using this
  have pick := fun x (hx : Fits ss x) => Mono.pick (P := P) (ops := l.toArray) (x := x) hx (a0 := a) (l.take n) ss 0 (fun j hj => by
    have hj' : j < n := by simp only [List.length_take] at hj; omega
    simp [hj']) (fun j => by rw [Nat.zero_add]) h
  have hlen : (l.take n).length = n := by simp; omega
  rw [hlen] at pick
  refine wp_region_any hm ?_
  have I0 : Inv l.toArray n ss w a (Array.replicate l.toArray.size false) (fun k => match ss[k]? with | some (.is u, _) => u | _ => undef) a { w with drawn := w.drawn + 1 } := by
    refine ⟨⟨by simp, fun j oj _ hl => (by rw [getD_replicate_false] at hl; cases hl), fun t _ ht => getD_in (by simpa using ht) (getD_replicate_false _ _)⟩, (Grows.refl w).drew, ?_, ?_, ?_, ?_⟩
    · have : ∀ m, upto l.toArray (fun k => (Array.replicate l.toArray.size false).getD k false) (fun k => match ss[k]? with | some (.is u, _) => u | _ => undef) a m = a := by
        intro m
        induction m with
        | zero => rfl
        | succ m ih =>
          simp only [upto, getD_replicate_false, Bool.false_eq_true, if_false]
          simp only [getD_replicate_false] at ih
          exact ih
      exact (this n).symm
    · intro k s hl; rw [getD_replicate_false] at hl; cases hl
    · intro k s hl; rw [getD_replicate_false] at hl; cases hl
    · intro k s u hs hu
      obtain ⟨sp, ns⟩ := s
      simp only at hu
      subst hu
      simp only [hs]
  have := Inv.any (P := P) M (Q := Q) (tl := l.drop n) (fun j => by simp [List.getElem?_drop]) (by simp)
    (fun x hx i hi => (pick x hx).1 i (by omega) (by omega))
    (fun x hx w' hg hok => by
      have hf := (pick x hx).2 w' hg
      rw [Nat.zero_add] at hf
      exact allF_spec hf (factsOf_mem n (fun j s hj hs => hok j s hj hs)))
    n _ _ _ _ I0 (left_fresh _ n)
  have e : n + (l.toArray.size - n) = l.toArray.size := by simp; omega
  rw [e] at this
  exact this

/-! ### The walk's steps -/
section
variable {fin : List (Nat × (World → Prop)) → Act → Prop} {l : List Oper} {k : Nat} {fs : List (Nat × (World → Prop))} {a : Act} {o : Oper} {ns : List Nat}

theorem Mono.is {u : Value} (hw : Region.wanted o (yielded ops a.tmps) = true)
    (hob : ∀ w, Grows w0 w → needs fs w ns (wpList P ops (MonoQ o fun v w' => Grows w w' ∧ v = u) [o] a w))
    (hrest : Mono P ops w0 fin l ss (k + 1) fs (a.put o.dst u)) : Mono P ops w0 fin (o :: l) ((.is u, ns) :: ss) k fs a := by
  unfold Mono
  rw [if_pos hw]
  exact ⟨⟨Spec.up_is u, hob⟩, hrest⟩

theorem Mono.pr {R : Value → World → Prop} (hw : Region.wanted o (yielded ops a.tmps) = true) (hup : ∀ v w w', Grows w w' → R v w → R v w')
    (hob : ∀ w, Grows w0 w → needs fs w ns (wpList P ops (MonoQ o fun v w' => Grows w w' ∧ R v w') [o] a w))
    (hrest : ∀ v, Mono P ops w0 fin l ss (k + 1) ((k, R v) :: fs) (a.put o.dst v)) : Mono P ops w0 fin (o :: l) ((.pr R, ns) :: ss) k fs a := by
  unfold Mono
  rw [if_pos hw]
  exact ⟨⟨hup, hob⟩, hrest⟩

theorem Mono.is0 {u : Value} (hw : Region.wanted o (yielded ops a.tmps) = true)
    (hob : ∀ w, Grows w0 w → wpList P ops (MonoQ o fun v w' => Grows w w' ∧ v = u) [o] a w)
    (hrest : ∀ k' a', k' = k + 1 → a' = a.put o.dst u → Mono P ops w0 fin l ss k' fs a') : Mono P ops w0 fin (o :: l) ((.is u, []) :: ss) k fs a := Mono.is hw hob (hrest _ _ rfl rfl)

theorem Mono.pr0 {R : Value → World → Prop} (hw : Region.wanted o (yielded ops a.tmps) = true) (hup : ∀ v w w', Grows w w' → R v w → R v w')
    (hob : ∀ w, Grows w0 w → wpList P ops (MonoQ o fun v w' => Grows w w' ∧ R v w') [o] a w)
    (hrest : ∀ v k' a', k' = k + 1 → a' = a.put o.dst v → Mono P ops w0 fin l ss k' ((k, R v) :: fs) a') : Mono P ops w0 fin (o :: l) ((.pr R, []) :: ss) k fs a := Mono.pr hw hup hob (fun v => hrest v _ _ rfl rfl)

theorem Mono.is1 {u : Value} {i : Nat} (hw : Region.wanted o (yielded ops a.tmps) = true)
    (hob : ∀ w, Grows w0 w → factAt fs i w → wpList P ops (MonoQ o fun v w' => Grows w w' ∧ v = u) [o] a w)
    (hrest : ∀ k' a', k' = k + 1 → a' = a.put o.dst u → Mono P ops w0 fin l ss k' fs a') : Mono P ops w0 fin (o :: l) ((.is u, [i]) :: ss) k fs a := Mono.is hw hob (hrest _ _ rfl rfl)

theorem Mono.pr1 {R : Value → World → Prop} {i : Nat} (hw : Region.wanted o (yielded ops a.tmps) = true) (hup : ∀ v w w', Grows w w' → R v w → R v w')
    (hob : ∀ w, Grows w0 w → factAt fs i w → wpList P ops (MonoQ o fun v w' => Grows w w' ∧ R v w') [o] a w)
    (hrest : ∀ v k' a', k' = k + 1 → a' = a.put o.dst v → Mono P ops w0 fin l ss k' ((k, R v) :: fs) a') : Mono P ops w0 fin (o :: l) ((.pr R, [i]) :: ss) k fs a := Mono.pr hw hup hob (fun v => hrest v _ _ rfl rfl)

theorem Mono.is2 {u : Value} {i j : Nat} (hw : Region.wanted o (yielded ops a.tmps) = true)
    (hob : ∀ w, Grows w0 w → factAt fs i w → factAt fs j w → wpList P ops (MonoQ o fun v w' => Grows w w' ∧ v = u) [o] a w)
    (hrest : ∀ k' a', k' = k + 1 → a' = a.put o.dst u → Mono P ops w0 fin l ss k' fs a') : Mono P ops w0 fin (o :: l) ((.is u, [i, j]) :: ss) k fs a := Mono.is hw hob (hrest _ _ rfl rfl)

theorem Mono.pr2 {R : Value → World → Prop} {i j : Nat} (hw : Region.wanted o (yielded ops a.tmps) = true) (hup : ∀ v w w', Grows w w' → R v w → R v w')
    (hob : ∀ w, Grows w0 w → factAt fs i w → factAt fs j w → wpList P ops (MonoQ o fun v w' => Grows w w' ∧ R v w') [o] a w)
    (hrest : ∀ v k' a', k' = k + 1 → a' = a.put o.dst v → Mono P ops w0 fin l ss k' ((k, R v) :: fs) a') : Mono P ops w0 fin (o :: l) ((.pr R, [i, j]) :: ss) k fs a := Mono.pr hw hup hob (fun v => hrest v _ _ rfl rfl)

theorem Mono.no (hw : Region.wanted o (yielded ops a.tmps) = false) (hrest : ∀ k' a', k' = k + 1 → a' = a.put o.dst undef → Mono P ops w0 fin l ss k' fs a') :
    Mono P ops w0 fin (o :: l) ((.is undef, ns) :: ss) k fs a := by
  unfold Mono
  rw [if_neg (by rw [hw]; simp)]
  exact ⟨rfl, hrest _ _ rfl rfl⟩

theorem Mono.done (h : fin fs a) : Mono P ops w0 fin [] [] k fs a := h
end
end
end Go.Proofs.Ythcmdjaccjghjaa
