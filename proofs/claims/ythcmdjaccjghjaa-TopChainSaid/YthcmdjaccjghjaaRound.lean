/-
  What is walked outside holds in a round's frame (the body of a loop over a function), at the wide fence. Plain theorems over any program.
-/
import Derived.Test.YthcmdjaccjghjaaMono
import Derived.RangeFuncNested
import Derived.RangeFuncBound
import Derived.RangeFuncCalls
import Derived.RangeFuncLeaves
import Derived.OrdersIn
import Derived.OwnWalkIn
namespace Go.Proofs.Ythcmdjaccjghjaa
open Go Go.RowKit

/-- A round's fence. -/
abbrev FR (l : Nat) : Fence := Fence.wide.inRound l
def isDefer : Op → Bool
  | .defer _ => true
  | _ => false
section
variable {P : Program} {ops : Array Oper} {Q : Exit → Act → World → Prop} {l n : Nat}
theorem notDefer {lo : List Oper} (h : lo.all (fun o => !isDefer o.op) = true) : ∀ (i : Nat) (o : Oper), lo.toArray[i]? = some o → ∀ c, o.op ≠ .defer c := by
  intro i o ho c e
  rw [List.all_eq_true] at h
  have := h o (List.mem_of_getElem? (by simpa using ho))
  rw [e] at this
  cases this
theorem callsIn_round {f : FuncId} {args : Array Value} {w : World} {R : Ending → World → Prop} (h : Calls P f args w R) : CallsIn (FR l) n P f args w R := CallsIn.inRound l (callsIn_wide.2 h)
theorem uponIn_of_upon {o : Oper} {a : Act} {K : Act → World → Prop} : ∀ {r : Result Next}, o.upon P a K Q r → o.uponIn (FR l) n P a K Q r
  | .ok (.value _) _, h => h
  | .ok .skip _, h => h
  | .ok (.defer _) _, h => h
  | .ok (.enter _ _) _, h => ⟨fun e => (by cases e), callsIn_round h⟩
  | .ok (.row _ _) _, h => ⟨fun e => (by cases e), fun c cs _ => by obtain ⟨v, w', r, s⟩ := h c cs; exact ⟨v, w', r, stepsIn_wide.2 s⟩⟩
  | .ok (.round _ _ _ _ _) _, h => h.elim
  | .ok .recover _, h => h.elim
  | .ok (.spawn _) _, h => h.elim
  | .halt (.panic _) _, h => h
  | .halt (.unsupported _) _, h => h.elim
  | .halt (.stuck _) _, h => h.elim
theorem wpIn_of_wp {o : Oper} {a : Act} {w : World} {K : Act → World → Prop} (ho : ∀ c, o.op ≠ .defer c) (h : o.wp P a w K Q) : o.wpIn (FR l) n P a w K Q :=
  ⟨fun _ _ => trivial, by rw [Oper.semAt_eq _ _ _ ho]; exact uponIn_of_upon h⟩
theorem wpAnyIn_of {md : Region.Mode} (hnd : ∀ (i : Nat) (o : Oper), ops[i]? = some o → ∀ c, o.op ≠ .defer c) (hQ : ¬ LetsOut Q) : ∀ (fuel : Nat) (listed : Array Bool) (a : Act) (w : World), wpAny P md ops Q fuel listed a w → wpAnyIn (FR l) n P md ops Q fuel listed a w
  | 0, _, _, _, h => h
  | fuel + 1, listed, a, w, h => by
    refine ⟨h.1, fun i hi => ?_⟩
    have h2 := h.2 i hi
    unfold wpOp at h2
    unfold wpOpIn
    cases ho : ops[i]? with
    | none =>
      rw [ho] at h2
      exact wpAnyIn_of hnd hQ fuel _ _ _ h2
    | some o =>
      rw [ho] at h2
      simp only at h2 ⊢
      split
      · rename_i hw
        rw [if_pos hw] at h2
        rcases h2 with h2 | ⟨_, h2⟩
        · exact wpIn_of_wp (hnd i o ho) (Oper.wp_mono (fun a w => wpAnyIn_of hnd hQ fuel _ a w) h2)
        · exact absurd h2 hQ
      · rename_i hw
        rw [if_neg hw] at h2
        exact ⟨fun _ _ => trivial, wpAnyIn_of hnd hQ fuel _ _ _ h2⟩
theorem wpListIn_of (hQ : ¬ LetsOut Q) : ∀ (lo : List Oper) (a : Act) (w : World), (lo.all (fun o => !isDefer o.op) = true) → wpList P ops Q lo a w → wpListIn (FR l) n P ops Q lo a w
  | [], _, _, _, h => h
  | o :: lo, a, w, hnd, h => by
    have hlo : lo.all (fun o => !isDefer o.op) = true := by rw [List.all_cons, Bool.and_eq_true] at hnd; exact hnd.2
    have ho : ∀ c, o.op ≠ .defer c := fun c e => by rw [List.all_cons, Bool.and_eq_true, e] at hnd; cases hnd.1
    unfold wpList at h
    unfold wpListIn
    split
    · rename_i hw
      rw [if_pos hw] at h
      rcases h with h | ⟨_, h⟩
      · exact wpIn_of_wp ho (Oper.wp_mono (fun a w => wpListIn_of hQ lo a w hlo) h)
      · exact absurd h hQ
    · rename_i hw
      rw [if_neg hw] at h
      exact ⟨fun _ _ => trivial, wpListIn_of hQ lo _ _ hlo h⟩
/-- A region in its order, in a round: walked as outside. -/
theorem wpIn_region_in {id : Nat} {lo : List Oper} {a : Act} {w : World} (hnd : lo.all (fun o => !isDefer o.op) = true) (hQ : ¬ LetsOut Q) (h : wpList P lo.toArray Q lo a w) : (Code.region id lo.toArray false).wpIn (FR l) n P Q a w :=
  wpIn_region_lit (wpListIn_of hQ lo a w hnd h)
end
section
variable {P : Program} {ops : Array Oper}
/-- **A REGION THAT DRAWS ITS ORDER, WALKED ONCE.** The first n operations each by its own specification, the others in their order. -/
theorem wpIn_region_mono {lp m : Nat} {id : Nat} {Q : Exit → Act → World → Prop} {a : Act} {w : World} {l : List Oper} (n : Nat) (ss : List (Spec × List Nat)) (hm : P.follows .mixedOrders = true)
    (hB : monoB l.toArray (Region.before l.toArray) n (ss.map (·.2)) a.tmps.size = true)
    (hnd : l.all (fun o => !isDefer o.op) = true) (hQo : ¬ LetsOut Q)
    (h : Mono P l.toArray w (fun fs a' => ∀ w', Grows w w' → allF w' fs (wpList P l.toArray Q (l.drop n) a' w')) (l.take n) ss 0 [] a) : (Code.region id l.toArray true).wpIn (FR lp) m P Q a w := by
  have M := monoOk hB
  have hn : n ≤ l.length := by have := M.le; simpa using this
  have pick := fun x (hx : Fits ss x) => Mono.pick (P := P) (ops := l.toArray) (x := x) hx (a0 := a) (l.take n) ss 0 (fun j hj => by
    have hj' : j < n := by simp only [List.length_take] at hj; omega
    simp [hj']) (fun j => by rw [Nat.zero_add]) h
  have hlen : (l.take n).length = n := by simp; omega
  rw [hlen] at pick
  refine wpIn_region_any hm (wpAnyIn_of (fun i o ho => notDefer hnd i o ho) hQo _ _ _ _ ?_)
  have I0 : Inv l.toArray n ss w a (Array.replicate l.toArray.size false) (fun k => match ss[k]? with | some (.is u, _) => u | _ => undef) a { w with drawn := w.drawn + 1 } := by
    refine ⟨⟨by simp, fun j oj _ hl => (by rw [getD_replicate_false] at hl; cases hl), fun t _ ht => getD_in (by simpa using ht) (getD_replicate_false _ _)⟩, (Grows.refl w).drew, ?_, ?_, ?_, ?_⟩
    · have : ∀ m, upto l.toArray (fun k => (Array.replicate l.toArray.size false).getD k false) (fun k => match ss[k]? with | some (.is u, _) => u | _ => undef) a m = a := by
        intro m
        induction m with
        | zero => rfl
        | succ m ih =>
          simp only [upto, getD_replicate_false, Bool.false_eq_true, if_false]
          simp only [getD_replicate_false] at ih
          exact ih
      exact (this n).symm
    · intro k s hl; rw [getD_replicate_false] at hl; cases hl
    · intro k s hl; rw [getD_replicate_false] at hl; cases hl
    · intro k s u hs hu
      obtain ⟨sp, ns⟩ := s
      simp only at hu
      subst hu
      simp only [hs]
  have := Inv.any (P := P) M (Q := Q) (tl := l.drop n) (fun j => by simp [List.getElem?_drop]) (by simp)
    (fun x hx i hi => (pick x hx).1 i (by omega) (by omega))
    (fun x hx w' hg hok => by
      have hf := (pick x hx).2 w' hg
      rw [Nat.zero_add] at hf
      exact allF_spec hf (factsOf_mem n (fun j s hj hs => hok j s hj hs)))
    n _ _ _ _ I0 (left_fresh _ n)
  have e : n + (l.toArray.size - n) = l.toArray.size := by simp; omega
  rw [e] at this
  exact this

end
end Go.Proofs.Ythcmdjaccjghjaa
