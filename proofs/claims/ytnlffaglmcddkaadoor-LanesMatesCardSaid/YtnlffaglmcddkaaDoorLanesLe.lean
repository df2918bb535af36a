/-
  Lanes, plainly: messages handed to four lanes as they fall free, and the machine that goes step by step. No program in sight.
-/
import Derived.Test.YtnlffaglmcddkaaDoorNum
namespace Go.Proofs.YtnlffaglmcddkaaDoor

/-- The lane that is free first (of several the first), among the first j + 1. -/
def bestF (f : List Nat) : Nat → Nat
  | 0 => 0
  | j + 1 => if f.getD (j + 1) 0 < f.getD (bestF f j) 0 then j + 1 else bestF f j
/-- When each lane is free, behind m messages. -/
def freeF (B : Nat → Nat) : Nat → List Nat
  | 0 => [0, 0, 0, 0]
  | m + 1 => (freeF B m).set (bestF (freeF B m) 3) ((freeF B m).getD (bestF (freeF B m) 3) 0 + B m)
/-- When a message leaves, and which lane. -/
def endF (B : Nat → Nat) (m : Nat) : Nat × Nat := ((freeF B m).getD (bestF (freeF B m) 3) 0 + B m, bestF (freeF B m) 3)
def maxF (B : Nat → Nat) : Nat → Nat
  | 0 => 0
  | m + 1 => if maxF B m < (endF B m).1 then (endF B m).1 else maxF B m
def ordI (B : Nat → Nat) (t k N : Nat) : List Nat := (List.range N).filter fun i => endF B i == (t, k)
def ordK (B : Nat → Nat) (N t j : Nat) : List Nat := (List.range j).flatMap fun k => ordI B t k N
def ordF (B : Nat → Nat) (N T : Nat) : List Nat := (List.range T).flatMap fun t => ordK B N (t + 1) 4
def sumB (B : Nat → Nat) : Nat → Nat
  | 0 => 0
  | m + 1 => sumB B m + B m

theorem bestF_lt (f : List Nat) : ∀ j, bestF f j ≤ j
  | 0 => Nat.le_refl _
  | j + 1 => by have := bestF_lt f j; rw [bestF]; split <;> omega
theorem bestF_min (f : List Nat) : ∀ j i, i ≤ j → f.getD (bestF f j) 0 ≤ f.getD i 0
  | 0, i, h => by obtain rfl : i = 0 := by omega
                  exact Nat.le_refl _
  | j + 1, i, h => by
    rw [bestF]
    split
    · rename_i hlt
      by_cases e : i = j + 1
      · rw [e]; exact Nat.le_refl _
      · have := bestF_min f j i (by omega); omega
    · rename_i hlt
      by_cases e : i = j + 1
      · rw [e]; omega
      · exact bestF_min f j i (by omega)
theorem bestF_first (f : List Nat) : ∀ j i, i < bestF f j → f.getD (bestF f j) 0 < f.getD i 0
  | 0, i, h => by simp [bestF] at h
  | j + 1, i, h => by
    rw [bestF] at h ⊢
    split at h
    · rename_i hlt
      rw [if_pos hlt]
      have := bestF_min f j i (by omega)
      omega
    · rename_i hlt
      rw [if_neg hlt]
      exact bestF_first f j i h
/-- The first of the least is the best. -/
theorem bestF_is (f : List Nat) (j i : Nat) (hi : i ≤ j) (h1 : ∀ k, k ≤ j → f.getD i 0 ≤ f.getD k 0) (h2 : ∀ k, k < i → f.getD i 0 < f.getD k 0) : bestF f j = i := by
  rcases Nat.lt_trichotomy (bestF f j) i with h | h | h
  · have a := h2 _ h
    have b := bestF_min f j i hi
    omega
  · exact h
  · have a := bestF_first f j i h
    have b := h1 (bestF f j) (bestF_lt f j)
    omega

theorem freeF_len (B : Nat → Nat) : ∀ m, (freeF B m).length = 4
  | 0 => rfl
  | m + 1 => by rw [freeF, List.length_set, freeF_len B m]
theorem getD_set (f : List Nat) (i j x : Nat) (hi : i < f.length) : (f.set i x).getD j 0 = if j = i then x else f.getD j 0 := by
  rw [List.getD_eq_getElem?_getD, List.getElem?_set, List.getD_eq_getElem?_getD]
  by_cases e : i = j
  · subst e; simp [hi]
  · rw [if_neg e, if_neg (fun h => e h.symm)]
theorem freeF_at (B : Nat → Nat) (m j : Nat) : (freeF B (m + 1)).getD j 0 = if j = (endF B m).2 then (endF B m).1 else (freeF B m).getD j 0 := by
  rw [freeF, getD_set _ _ _ _ (by rw [freeF_len]; have := bestF_lt (freeF B m) 3; omega)]
  rfl
theorem endF_lane (B : Nat → Nat) (m : Nat) : (endF B m).2 < 4 := by have := bestF_lt (freeF B m) 3; unfold endF; omega
theorem endF_eq (B : Nat → Nat) (m : Nat) : (endF B m).1 = (freeF B m).getD (endF B m).2 0 + B m := rfl
theorem endF_min (B : Nat → Nat) (m j : Nat) (hj : j < 4) : (endF B m).1 ≤ (freeF B m).getD j 0 + B m := by
  rw [endF_eq]; have := bestF_min (freeF B m) 3 j (by omega); unfold endF; simp only; omega
theorem freeF_mono (B : Nat → Nat) (m j : Nat) : (freeF B m).getD j 0 ≤ (freeF B (m + 1)).getD j 0 := by
  rw [freeF_at]
  split
  · rename_i h; subst h; rw [endF_eq]; omega
  · exact Nat.le_refl _
theorem freeF_mono2 (B : Nat → Nat) (m j d : Nat) : (freeF B m).getD j 0 ≤ (freeF B (m + d)).getD j 0 := by
  induction d with
  | zero => exact Nat.le_refl _
  | succ d ih => exact Nat.le_trans ih (freeF_mono B (m + d) j)
/-- A message that is handed out later leaves later than every lane is free now. -/
theorem endF_later (B : Nat → Nat) (hB : ∀ m, 1 ≤ B m) (m m' t : Nat) (h : m ≤ m') (hf : ∀ j, j < 4 → t ≤ (freeF B m).getD j 0) : t < (endF B m').1 := by
  rw [endF_eq]
  obtain ⟨d, rfl⟩ := Nat.le.dest h
  have a := freeF_mono2 B m (endF B (m + d)).2 d
  have b := hf (endF B (m + d)).2 (endF_lane B (m + d))
  have c := hB (m + d)
  omega
theorem maxF_le (B : Nat → Nat) : ∀ N m, m < N → (endF B m).1 ≤ maxF B N
  | 0, m, h => by omega
  | N + 1, m, h => by
    rw [maxF]
    by_cases e : m = N
    · subst e; split <;> omega
    · have := maxF_le B N m (by omega); split <;> omega
theorem maxF_is (B : Nat → Nat) : ∀ N, maxF B N = 0 ∨ ∃ m, m < N ∧ maxF B N = (endF B m).1
  | 0 => .inl rfl
  | N + 1 => by
    rw [maxF]
    split
    · exact .inr ⟨N, by omega, rfl⟩
    · rcases maxF_is B N with h | ⟨m, hm, h⟩
      · exact .inl h
      · exact .inr ⟨m, by omega, h⟩

/-- The machine: each lane's message and how many blocks are left; how many messages are handed out. -/
abbrev LaneS := Option (Nat × Nat)
def fillI (B : Nat → Nat) (N : Nat) (s : List LaneS × Nat) (i : Nat) : List LaneS × Nat :=
  if s.1.getD i none = none ∧ s.2 < N then (s.1.set i (some (s.2, B s.2)), s.2 + 1) else s
def fillF (B : Nat → Nat) (N : Nat) (s : List LaneS × Nat) : Nat → List LaneS × Nat
  | 0 => s
  | j + 1 => fillI B N (fillF B N s j) j
def busyF (L : List LaneS) : Nat → Bool
  | 0 => false
  | j + 1 => busyF L j || (L.getD j none).isSome
def goI (s : List LaneS × List Nat) (i : Nat) : List LaneS × List Nat :=
  match s.1.getD i none with
  | none => s
  | some (n, l) => if l = 1 then (s.1.set i none, s.2 ++ [n]) else (s.1.set i (some (n, l - 1)), s.2)
def goF (L : List LaneS) : Nat → List LaneS × List Nat
  | 0 => (L, [])
  | j + 1 => goI (goF L j) j
/-- Behind t steps: the lanes, what is handed out, what has left. -/
def runS (B : Nat → Nat) (N : Nat) : Nat → List LaneS × Nat × List Nat
  | 0 => ([none, none, none, none], 0, [])
  | t + 1 => ((goF (fillF B N ((runS B N t).1, (runS B N t).2.1) 4).1 4).1, (fillF B N ((runS B N t).1, (runS B N t).2.1) 4).2, (runS B N t).2.2 ++ (goF (fillF B N ((runS B N t).1, (runS B N t).2.1) 4).1 4).2)

/-- A lane at the time t: what the greedy one says of it. -/
def LaneOk (B : Nat → Nat) (t k i : Nat) (x : LaneS) : Prop :=
  match x with
  | none => (freeF B k).getD i 0 ≤ t ∧ ∀ m, m < k → (endF B m).2 = i → (endF B m).1 ≤ t
  | some (n, l) => n < k ∧ 1 ≤ l ∧ l ≤ B n ∧ endF B n = (t + l, i) ∧ (freeF B k).getD i 0 = t + l ∧ ∀ m, m < k → (endF B m).2 = i → m = n ∨ (endF B m).1 ≤ t
def RunI (B : Nat → Nat) (N t : Nat) (s : List LaneS × Nat) : Prop :=
  s.1.length = 4 ∧ s.2 ≤ N ∧ (∀ i, i < 4 → LaneOk B t s.2 i (s.1.getD i none)) ∧ (s.2 < N → ∀ i, i < 4 → t ≤ (freeF B s.2).getD i 0)
theorem getD_setL (f : List LaneS) (i j : Nat) (x : LaneS) (hi : i < f.length) : (f.set i x).getD j none = if j = i then x else f.getD j none := by
  rw [List.getD_eq_getElem?_getD, List.getElem?_set, List.getD_eq_getElem?_getD]
  by_cases e : i = j
  · subst e; simp [hi]
  · rw [if_neg e, if_neg (fun h => e h.symm)]
theorem fillI_ok (B : Nat → Nat) (hB : ∀ m, 1 ≤ B m) (N t j : Nat) (hj : j < 4) (s : List LaneS × Nat) (h : RunI B N t s) (hs : s.2 < N → ∀ i, i < j → (s.1.getD i none).isSome = true) :
    RunI B N t (fillI B N s j) ∧ ((fillI B N s j).2 < N → ∀ i, i < j + 1 → ((fillI B N s j).1.getD i none).isSome = true) := by
  obtain ⟨L, k⟩ := s
  obtain ⟨h1, h2, h3, h4⟩ := h
  simp only at h1 h2 h3 h4 hs
  unfold fillI
  simp only
  by_cases hc : L.getD j none = none ∧ k < N
  · rw [if_pos hc]
    obtain ⟨hn, hk⟩ := hc
    have hjok := h3 j hj
    rw [hn] at hjok
    obtain ⟨f1, f2⟩ := hjok
    have hft : (freeF B k).getD j 0 = t := by have := h4 hk j hj; omega
    have hbest : bestF (freeF B k) 3 = j := by
      apply bestF_is _ _ _ (by omega)
      · intro i hi
        have := h4 hk i (by omega)
        omega
      · intro i hi
        have a := hs hk i hi
        have b := h3 i (by omega)
        cases e : L.getD i none with
        | none => rw [e] at a; cases a
        | some nl =>
          rw [e] at b
          obtain ⟨n, l⟩ := nl
          obtain ⟨_, b2, _, _, b5, _⟩ := b
          omega
    have hend : endF B k = (t + B k, j) := by unfold endF; rw [hbest, hft]
    refine ⟨⟨by simp only [List.length_set]; exact h1, by simp only; omega, ?_, ?_⟩, ?_⟩
    · intro i hi
      simp only
      rw [getD_setL _ _ _ _ (by omega)]
      by_cases e : i = j
      · subst e
        rw [if_pos rfl]
        refine ⟨by omega, hB k, Nat.le_refl _, hend, ?_, ?_⟩
        · rw [freeF_at, hend, if_pos rfl]
        · intro m hm hl
          rcases Nat.lt_succ_iff_lt_or_eq.1 hm with hm | hm
          · exact .inr (f2 m hm hl)
          · exact .inl hm
      · rw [if_neg e]
        have b := h3 i hi
        have hfr : (freeF B (k + 1)).getD i 0 = (freeF B k).getD i 0 := by rw [freeF_at, hend, if_neg e]
        have hne : ∀ m, m < k + 1 → (endF B m).2 = i → m < k := by
          intro m hm hl
          rcases Nat.lt_succ_iff_lt_or_eq.1 hm with hm | hm
          · exact hm
          · subst hm; rw [hend] at hl; exact absurd hl.symm e
        cases e2 : L.getD i none with
        | none =>
          rw [e2] at b
          exact ⟨by rw [hfr]; exact b.1, fun m hm hl => b.2 m (hne m hm hl) hl⟩
        | some nl =>
          rw [e2] at b
          obtain ⟨n, l⟩ := nl
          exact ⟨by have := b.1; omega, b.2.1, b.2.2.1, b.2.2.2.1, by rw [hfr]; exact b.2.2.2.2.1, fun m hm hl => b.2.2.2.2.2 m (hne m hm hl) hl⟩
    · intro _ i hi
      exact Nat.le_trans (h4 hk i hi) (freeF_mono B k i)
    · intro _ i hi
      simp only
      rw [getD_setL _ _ _ _ (by omega)]
      by_cases e : i = j
      · rw [if_pos e]; rfl
      · rw [if_neg e]; exact hs hk i (by omega)
  · rw [if_neg hc]
    refine ⟨⟨h1, h2, h3, h4⟩, fun hk i hi => ?_⟩
    simp only at hk ⊢
    by_cases e : i = j
    · subst e
      cases e2 : L.getD i none with
      | none => exact absurd ⟨e2, hk⟩ hc
      | some _ => rfl
    · exact hs hk i (by omega)
theorem fillF_ok (B : Nat → Nat) (hB : ∀ m, 1 ≤ B m) (N t : Nat) (s : List LaneS × Nat) (h : RunI B N t s) : ∀ j, j ≤ 4 →
    RunI B N t (fillF B N s j) ∧ ((fillF B N s j).2 < N → ∀ i, i < j → ((fillF B N s j).1.getD i none).isSome = true)
  | 0, _ => ⟨h, fun _ i hi => absurd hi (by omega)⟩
  | j + 1, hj => fillI_ok B hB N t j (by omega) _ (fillF_ok B hB N t s h j (by omega)).1 (fillF_ok B hB N t s h j (by omega)).2

def stepL : LaneS → LaneS
  | none => none
  | some (n, l) => if l = 1 then none else some (n, l - 1)
def outL : LaneS → List Nat
  | none => []
  | some (n, l) => if l = 1 then [n] else []
theorem goF_is (L : List LaneS) (hL : L.length = 4) : ∀ j, j ≤ 4 → (goF L j).1.length = 4 ∧ (∀ i, (goF L j).1.getD i none = if i < j then stepL (L.getD i none) else L.getD i none) ∧ (goF L j).2 = (List.range j).flatMap fun i => outL (L.getD i none)
  | 0, _ => ⟨hL, fun i => by rw [if_neg (by omega)]; rfl, rfl⟩
  | j + 1, hj => by
    obtain ⟨h1, h2, h3⟩ := goF_is L hL j (by omega)
    have hjj := h2 j
    rw [if_neg (Nat.lt_irrefl j)] at hjj
    rw [goF, goI, hjj, List.range_succ, List.flatMap_append, ← h3]
    cases e : L.getD j none with
    | none =>
      refine ⟨h1, fun i => ?_, by simp only [List.flatMap_cons, List.flatMap_nil, List.append_nil, e, outL]⟩
      simp only
      rw [h2 i]
      by_cases e2 : i = j
      · subst e2; rw [if_neg (by omega), if_pos (by omega), e]; rfl
      · by_cases e3 : i < j
        · rw [if_pos e3, if_pos (by omega)]
        · rw [if_neg e3, if_neg (by omega)]
    | some nl =>
      obtain ⟨n, l⟩ := nl
      simp only
      by_cases hl : l = 1
      · rw [if_pos hl]
        refine ⟨by simp only [List.length_set]; exact h1, fun i => ?_, by simp only [List.flatMap_cons, List.flatMap_nil, List.append_nil, e, outL]; rw [if_pos hl]⟩
        simp only
        rw [getD_setL _ _ _ _ (by omega), h2 i]
        by_cases e2 : i = j
        · subst e2; rw [if_pos rfl, if_pos (by omega), e]; simp [stepL, hl]
        · rw [if_neg e2]
          by_cases e3 : i < j
          · rw [if_pos e3, if_pos (by omega)]
          · rw [if_neg e3, if_neg (by omega)]
      · rw [if_neg hl]
        refine ⟨by simp only [List.length_set]; exact h1, fun i => ?_, by simp only [List.flatMap_cons, List.flatMap_nil, List.append_nil, e, outL]; rw [if_neg hl, List.append_nil]⟩
        simp only
        rw [getD_setL _ _ _ _ (by omega), h2 i]
        by_cases e2 : i = j
        · subst e2; rw [if_pos rfl, if_pos (by omega), e]; simp [stepL, hl]
        · rw [if_neg e2]
          by_cases e3 : i < j
          · rw [if_pos e3, if_pos (by omega)]
          · rw [if_neg e3, if_neg (by omega)]

theorem filter_one (p : Nat → Bool) (n : Nat) : ∀ N, n < N → p n = true → (∀ m, m < N → p m = true → m = n) → (List.range N).filter p = [n]
  | 0, h, _, _ => absurd h (by omega)
  | N + 1, h, hn, hu => by
    rw [List.range_succ, List.filter_append]
    by_cases e : n = N
    · subst e
      have : (List.range n).filter p = [] := by
        rw [List.filter_eq_nil_iff]
        intro a ha hpa
        have := hu a (by have := List.mem_range.1 ha; omega) hpa
        have := List.mem_range.1 ha
        omega
      rw [this]; simp [hn]
    · rw [filter_one p n N (by omega) hn (fun m hm => hu m (by omega))]
      have : p N = false := by
        cases hp : p N with
        | false => rfl
        | true => exact absurd (hu N (by omega) hp) (fun h => e h.symm)
      simp [this]
theorem filter_none (p : Nat → Bool) (N : Nat) (h : ∀ m, m < N → p m = false) : (List.range N).filter p = [] := by
  rw [List.filter_eq_nil_iff]
  intro a ha
  rw [h a (List.mem_range.1 ha)]
  exact Bool.false_ne_true

theorem goF_ok (B : Nat → Nat) (hB : ∀ m, 1 ≤ B m) (N t : Nat) (s : List LaneS × Nat) (h : RunI B N t s) (hs : s.2 < N → ∀ i, i < 4 → (s.1.getD i none).isSome = true) :
    RunI B N (t + 1) ((goF s.1 4).1, s.2) ∧ (goF s.1 4).2 = ordK B N (t + 1) 4 := by
  obtain ⟨L, k⟩ := s
  obtain ⟨h1, h2, h3, h4⟩ := h
  simp only at h1 h2 h3 h4 hs ⊢
  obtain ⟨g1, g2, g3⟩ := goF_is L h1 4 (Nat.le_refl _)
  have hfree : k < N → ∀ i, i < 4 → t + 1 ≤ (freeF B k).getD i 0 := by
    intro hk i hi
    have a := hs hk i hi
    have b := h3 i hi
    cases e : L.getD i none with
    | none => rw [e] at a; cases a
    | some nl =>
      rw [e] at b
      obtain ⟨n, l⟩ := nl
      obtain ⟨_, b2, _, _, b5, _⟩ := b
      omega
  refine ⟨⟨g1, h2, fun i hi => ?_, hfree⟩, ?_⟩
  · simp only
    rw [g2 i, if_pos hi]
    have b := h3 i hi
    cases e : L.getD i none with
    | none =>
      rw [e] at b
      exact ⟨by have := b.1; omega, fun m hm hl => by have := b.2 m hm hl; omega⟩
    | some nl =>
      rw [e] at b
      obtain ⟨n, l⟩ := nl
      obtain ⟨b1, b2, b3, b4, b5, b6⟩ := b
      simp only [stepL]
      by_cases hl : l = 1
      · subst hl
        rw [if_pos rfl]
        refine ⟨by omega, fun m hm hl => ?_⟩
        rcases b6 m hm hl with rfl | hle
        · rw [b4]; exact Nat.le_refl _
        · omega
      · rw [if_neg hl]
        refine ⟨b1, by omega, by omega, ?_, by omega, fun m hm hl => ?_⟩
        · rw [b4, show t + l = t + 1 + (l - 1) by omega]
        · rcases b6 m hm hl with rfl | hle
          · exact .inl rfl
          · exact .inr (by omega)
  · rw [g3]
    unfold ordK
    have each : ∀ i, i < 4 → outL (L.getD i none) = ordI B (t + 1) i N := by
      intro i hi
      have b := h3 i hi
      have late : ∀ m, m < N → ¬ m < k → (endF B m == (t + 1, i)) = false := by
        intro m hm hk
        have := endF_later B hB k m (t + 1) (by omega) (hfree (by omega))
        rw [beq_eq_false_iff_ne]
        intro e
        rw [e] at this
        exact absurd this (Nat.lt_irrefl _)
      have early : ∀ m, (endF B m).1 ≤ t → (endF B m == (t + 1, i)) = false := by
        intro m hm
        rw [beq_eq_false_iff_ne]
        intro e
        rw [e] at hm
        simp only at hm
        omega
      have other : ∀ m, (endF B m).2 ≠ i → (endF B m == (t + 1, i)) = false := by
        intro m hm
        rw [beq_eq_false_iff_ne]
        intro e
        rw [e] at hm
        exact hm rfl
      unfold ordI
      cases e : L.getD i none with
      | none =>
        rw [e] at b
        simp only [outL]
        rw [filter_none]
        intro m hm
        by_cases hk : m < k
        · by_cases hl : (endF B m).2 = i
          · exact early m (b.2 m hk hl)
          · exact other m hl
        · exact late m hm hk
      | some nl =>
        rw [e] at b
        obtain ⟨n, l⟩ := nl
        obtain ⟨b1, b2, b3, b4, b5, b6⟩ := b
        simp only [outL]
        by_cases hl : l = 1
        · subst hl
          rw [if_pos rfl, filter_one _ n N (by omega) (by rw [b4]; exact beq_self_eq_true _)]
          intro m hm hp
          by_cases hk : m < k
          · by_cases hl : (endF B m).2 = i
            · rcases b6 m hk hl with h | h
              · exact h
              · rw [early m h] at hp; cases hp
            · rw [other m hl] at hp; cases hp
          · rw [late m hm hk] at hp; cases hp
        · rw [if_neg hl, filter_none]
          intro m hm
          by_cases hk : m < k
          · by_cases hl2 : (endF B m).2 = i
            · rcases b6 m hk hl2 with rfl | h
              · rw [b4, beq_eq_false_iff_ne]
                intro e
                simp only [Prod.mk.injEq] at e
                omega
              · exact early m h
            · exact other m hl2
          · exact late m hm hk
    have : ∀ j, j ≤ 4 → (List.range j).flatMap (fun i => outL (L.getD i none)) = (List.range j).flatMap fun k => ordI B (t + 1) k N := by
      intro j hj
      induction j with
      | zero => rfl
      | succ j ih =>
        rw [List.range_succ, List.flatMap_append, List.flatMap_append, ih (by omega)]
        simp only [List.flatMap_cons, List.flatMap_nil, List.append_nil]
        rw [each j (by omega)]
    exact this 4 (Nat.le_refl _)

theorem runS_ok (B : Nat → Nat) (hB : ∀ m, 1 ≤ B m) (N : Nat) : ∀ t, RunI B N t ((runS B N t).1, (runS B N t).2.1) ∧ (runS B N t).2.2 = ordF B N t
  | 0 => ⟨⟨rfl, Nat.zero_le _, fun i hi => by
      have : ([none, none, none, none] : List LaneS).getD i none = none := by
        rcases i with _ | _ | _ | _ | i
        · rfl
        · rfl
        · rfl
        · rfl
        · omega
      show LaneOk B 0 0 i (([none, none, none, none] : List LaneS).getD i none)
      rw [this]
      refine ⟨?_, fun m hm => absurd hm (by omega)⟩
      rcases i with _ | _ | _ | _ | i
      · exact Nat.le_refl _
      · exact Nat.le_refl _
      · exact Nat.le_refl _
      · exact Nat.le_refl _
      · omega, fun _ i _ => Nat.zero_le _⟩, rfl⟩
  | t + 1 => by
    obtain ⟨h1, h2⟩ := runS_ok B hB N t
    obtain ⟨f1, f2⟩ := fillF_ok B hB N t _ h1 4 (Nat.le_refl _)
    obtain ⟨g1, g2⟩ := goF_ok B hB N t _ f1 f2
    refine ⟨g1, ?_⟩
    show (runS B N t).2.2 ++ (goF (fillF B N ((runS B N t).1, (runS B N t).2.1) 4).1 4).2 = _
    rw [g2, h2]
    unfold ordF
    rw [List.range_succ, List.flatMap_append]
    simp
/-- The lanes behind t steps, with new messages. -/
def fillS (B : Nat → Nat) (N t : Nat) : List LaneS × Nat := fillF B N ((runS B N t).1, (runS B N t).2.1) 4
theorem busyF_iff (L : List LaneS) : ∀ j, busyF L j = true ↔ ∃ i, i < j ∧ (L.getD i none).isSome = true
  | 0 => by
    constructor
    · intro h; cases h
    · rintro ⟨i, hi, _⟩; omega
  | j + 1 => by
    rw [busyF, Bool.or_eq_true, busyF_iff L j]
    constructor
    · rintro (⟨i, hi, h⟩ | h)
      · exact ⟨i, by omega, h⟩
      · exact ⟨j, by omega, h⟩
    · rintro ⟨i, hi, h⟩
      by_cases e : i = j
      · subst e; exact .inr h
      · exact .inl ⟨i, by omega, h⟩
theorem busy_yes (B : Nat → Nat) (hB : ∀ m, 1 ≤ B m) (N t : Nat) (ht : t < maxF B N) : busyF (fillS B N t).1 4 = true := by
  obtain ⟨f1, f2⟩ := fillF_ok B hB N t _ (runS_ok B hB N t).1 4 (Nat.le_refl _)
  obtain ⟨m, hm, he⟩ := (maxF_is B N).resolve_left (by omega)
  rw [busyF_iff]
  unfold fillS
  by_cases hk : m < (fillF B N ((runS B N t).1, (runS B N t).2.1) 4).2
  · refine ⟨(endF B m).2, endF_lane B m, ?_⟩
    have b := f1.2.2.1 (endF B m).2 (endF_lane B m)
    cases e : (fillF B N ((runS B N t).1, (runS B N t).2.1) 4).1.getD (endF B m).2 none with
    | none =>
      rw [e] at b
      have := b.2 m hk rfl
      omega
    | some _ => rfl
  · exact ⟨0, by omega, f2 (by omega) 0 (by omega)⟩
theorem busy_no (B : Nat → Nat) (hB : ∀ m, 1 ≤ B m) (N : Nat) : busyF (fillS B N (maxF B N)).1 4 = false := by
  obtain ⟨f1, f2⟩ := fillF_ok B hB N (maxF B N) _ (runS_ok B hB N (maxF B N)).1 4 (Nat.le_refl _)
  cases hb : busyF (fillS B N (maxF B N)).1 4 with
  | false => rfl
  | true =>
    obtain ⟨i, hi, h⟩ := (busyF_iff _ 4).1 hb
    unfold fillS at h
    have b := f1.2.2.1 i hi
    cases e : (fillF B N ((runS B N (maxF B N)).1, (runS B N (maxF B N)).2.1) 4).1.getD i none with
    | none => rw [e] at h; cases h
    | some nl =>
      rw [e] at b
      obtain ⟨n, l⟩ := nl
      obtain ⟨b1, b2, b3, b4, _⟩ := b
      have := maxF_le B N n (by have := f1.2.1; omega)
      rw [b4] at this
      simp only at this
      omega

theorem perm_keys {α : Type} (key : α → Nat) : ∀ (T : Nat) (l : List α), (∀ i ∈ l, key i < T) → ((List.range T).flatMap fun t => l.filter fun i => key i == t).Perm l
  | 0, l, h => by
    have : l = [] := by
      cases l with
      | nil => rfl
      | cons a l => exact absurd (h a (List.mem_cons_self ..)) (by omega)
    subst this
    exact List.Perm.refl _
  | T + 1, l, h => by
    rw [List.range_succ, List.flatMap_append]
    have ih := perm_keys key T (l.filter fun i => !(key i == T)) (fun i hi => by
      have a := h i (List.mem_filter.1 hi).1
      have b := (List.mem_filter.1 hi).2
      have : key i ≠ T := by simpa using b
      omega)
    have e : ((List.range T).flatMap fun t => (l.filter fun i => !(key i == T)).filter fun i => key i == t) = (List.range T).flatMap fun t => l.filter fun i => key i == t := by
      have : ∀ t ∈ List.range T, ((l.filter fun i => !(key i == T)).filter fun i => key i == t) = l.filter fun i => key i == t := by
        intro t ht
        rw [List.filter_filter]
        apply List.filter_congr
        intro i _
        have := List.mem_range.1 ht
        by_cases e : key i = t
        · have : key i ≠ T := by omega
          simp [e]; omega
        · simp [e]
      rw [List.flatMap_def, List.flatMap_def, List.map_congr_left this]
    rw [e] at ih
    simp only [List.flatMap_cons, List.flatMap_nil, List.append_nil]
    have f := List.filter_append_perm (fun i => key i == T) l
    exact ((ih.append_right _).trans List.perm_append_comm).trans f

theorem perm_flat {α β : Type} (f g : α → List β) : ∀ l : List α, (∀ a ∈ l, (f a).Perm (g a)) → (l.flatMap f).Perm (l.flatMap g)
  | [], _ => List.Perm.refl _
  | a :: l, h => by
    rw [List.flatMap_cons, List.flatMap_cons]
    exact (h a (List.mem_cons_self ..)).append (perm_flat f g l (fun b hb => h b (List.mem_cons_of_mem _ hb)))
theorem ord_perm (B : Nat → Nat) (hB : ∀ m, 1 ≤ B m) (N : Nat) : (ordF B N (maxF B N)).Perm (List.range N) := by
  have hpos : ∀ m, 1 ≤ (endF B m).1 := fun m => by have := endF_eq B m; have := hB m; omega
  have h1 := perm_keys (fun i => (endF B i).1 - 1) (maxF B N) (List.range N) (fun i hi => by
    have a := maxF_le B N i (List.mem_range.1 hi)
    have b := hpos i
    show (endF B i).1 - 1 < _
    omega)
  refine List.Perm.trans ?_ h1
  unfold ordF
  apply perm_flat
  intro t _
  have h2 := perm_keys (fun i => (endF B i).2) 4 ((List.range N).filter fun i => (endF B i).1 - 1 == t) (fun i _ => endF_lane B i)
  refine List.Perm.trans ?_ h2
  unfold ordK
  apply perm_flat
  intro k _
  rw [List.filter_filter]
  apply List.Perm.of_eq
  unfold ordI
  apply List.filter_congr
  intro i _
  have := hpos i
  by_cases e1 : (endF B i).1 = t + 1
  · by_cases e2 : (endF B i).2 = k
    · have e : endF B i = (t + 1, k) := Prod.ext e1 e2
      show (endF B i == (t + 1, k)) = ((endF B i).2 == k && (endF B i).1 - 1 == t)
      rw [e]; simp
    · have e : endF B i ≠ (t + 1, k) := fun e => e2 (by rw [e])
      show (endF B i == (t + 1, k)) = ((endF B i).2 == k && (endF B i).1 - 1 == t)
      rw [beq_eq_false_iff_ne.2 e, beq_eq_false_iff_ne.2 e2, Bool.false_and]
  · have e : endF B i ≠ (t + 1, k) := fun e => e1 (by rw [e])
    have e3 : (endF B i).1 - 1 ≠ t := by omega
    show (endF B i == (t + 1, k)) = ((endF B i).2 == k && (endF B i).1 - 1 == t)
    rw [beq_eq_false_iff_ne.2 e, beq_eq_false_iff_ne.2 e3, Bool.and_false]
theorem ord_len (B : Nat → Nat) (hB : ∀ m, 1 ≤ B m) (N : Nat) : (ordF B N (maxF B N)).length = N := by rw [(ord_perm B hB N).length_eq, List.length_range]
theorem ord_mem (B : Nat → Nat) (hB : ∀ m, 1 ≤ B m) (N n : Nat) : n ∈ ordF B N (maxF B N) ↔ n < N := by rw [(ord_perm B hB N).mem_iff, List.mem_range]
theorem ord_nodup (B : Nat → Nat) (hB : ∀ m, 1 ≤ B m) (N : Nat) : (ordF B N (maxF B N)).Nodup := (ord_perm B hB N).nodup_iff.2 List.nodup_range

/-- How many steps. -/
theorem maxF_ge (B : Nat → Nat) (N m : Nat) (h : m < N) : B m ≤ maxF B N := by
  have := maxF_le B N m h
  have := endF_eq B m
  omega
def sum4 (f : List Nat) : Nat := f.getD 0 0 + f.getD 1 0 + f.getD 2 0 + f.getD 3 0
theorem free_sum (B : Nat → Nat) : ∀ N, sum4 (freeF B N) = sumB B N
  | 0 => rfl
  | N + 1 => by
    rw [sumB, ← free_sum B N]
    unfold sum4
    have hl := endF_lane B N
    have he := endF_eq B N
    rw [freeF_at, freeF_at, freeF_at, freeF_at]
    generalize (endF B N).2 = j at hl he ⊢
    rw [he]
    rcases (show j = 0 ∨ j = 1 ∨ j = 2 ∨ j = 3 by omega) with rfl | rfl | rfl | rfl <;> simp <;> omega
theorem free_le (B : Nat → Nat) : ∀ N j, j < 4 → (freeF B N).getD j 0 ≤ maxF B N
  | 0, j, hj => by
    rcases (show j = 0 ∨ j = 1 ∨ j = 2 ∨ j = 3 by omega) with rfl | rfl | rfl | rfl <;> exact Nat.le_refl _
  | N + 1, j, hj => by
    rw [freeF_at]
    split
    · exact maxF_le B (N + 1) N (by omega)
    · have := free_le B N j hj
      rw [maxF]
      split <;> omega
theorem sum_le (B : Nat → Nat) (N : Nat) : sumB B N ≤ 4 * maxF B N := by
  rw [← free_sum]
  have h0 := free_le B N 0 (by omega)
  have h1 := free_le B N 1 (by omega)
  have h2 := free_le B N 2 (by omega)
  have h3 := free_le B N 3 (by omega)
  unfold sum4
  omega
theorem sumB_mono (B : Nat → Nat) (m N : Nat) (h : m ≤ N) : sumB B m ≤ sumB B N := by
  obtain ⟨d, rfl⟩ := Nat.le.dest h
  induction d with
  | zero => exact Nat.le_refl _
  | succ d ih => rw [← Nat.add_assoc, sumB]; have := ih (by omega); omega
theorem start_le (B : Nat → Nat) (m : Nat) : 4 * (endF B m).1 ≤ sumB B m + 4 * B m := by
  rw [← free_sum]
  have h0 := endF_min B m 0 (by omega)
  have h1 := endF_min B m 1 (by omega)
  have h2 := endF_min B m 2 (by omega)
  have h3 := endF_min B m 3 (by omega)
  unfold sum4
  omega
theorem max_le (B : Nat → Nat) (N M : Nat) (hM : ∀ m, m < N → B m ≤ M) : 4 * maxF B N ≤ sumB B N + 4 * M := by
  rcases maxF_is B N with h | ⟨m, hm, h⟩
  · rw [h]; omega
  · rw [h]
    have a := start_le B m
    have b := sumB_mono B m N (by omega)
    have c := hM m hm
    omega
/-- Of messages of one block each a quarter, rounded up. -/
theorem max_one (B : Nat → Nat) (h1 : ∀ m, B m = 1) (N : Nat) : maxF B N = (N + 3) / 4 := by
  have hs : ∀ m, sumB B m = m := fun m => by
    induction m with
    | zero => rfl
    | succ m ih => rw [sumB, ih, h1]
  have a := sum_le B N
  rw [hs] at a
  have b : 4 * maxF B N ≤ N + 3 := by
    rcases maxF_is B N with h | ⟨m, hm, h⟩
    · rw [h]; omega
    · rw [h]
      have := start_le B m
      rw [hs, h1] at this
      omega
  omega

/-- Of messages of one length. -/
theorem free_same (B : Nat → Nat) (b : Nat) (hb : 1 ≤ b) (h : ∀ m, B m = b) : ∀ m j, j < 4 → (freeF B m).getD j 0 = b * ((m + 3 - j) / 4) ∧ endF B m = ((m / 4 + 1) * b, m % 4)
  | 0, j, hj => by
    have e : (freeF B 0).getD j 0 = 0 := by
      rcases (show j = 0 ∨ j = 1 ∨ j = 2 ∨ j = 3 by omega) with rfl | rfl | rfl | rfl <;> rfl
    refine ⟨by rw [e, show (0 + 3 - j) / 4 = 0 by omega]; rfl, ?_⟩
    unfold endF
    rw [show bestF (freeF B 0) 3 = 0 from rfl, h]
    simp [freeF]
  | m + 1, j, hj => by
    have ih := free_same B b hb h m
    have he := (ih 0 (by omega)).2
    have hf : ∀ j, j < 4 → (freeF B (m + 1)).getD j 0 = b * ((m + 1 + 3 - j) / 4) := by
      intro j hj
      rw [freeF_at, he]
      simp only
      split
      · rename_i e
        rw [e, Nat.mul_comm]
        congr 1
        omega
      · rename_i e
        rw [(ih j hj).1]
        congr 1
        omega
    refine ⟨hf j hj, ?_⟩
    have hbest : bestF (freeF B (m + 1)) 3 = (m + 1) % 4 := by
      apply bestF_is _ _ _ (by omega)
      · intro i hi
        rw [hf _ (by omega), hf i (by omega)]
        exact Nat.mul_le_mul_left _ (by omega)
      · intro i hi
        rw [hf _ (by omega), hf i (by omega)]
        exact Nat.mul_lt_mul_of_pos_left (by omega) (by omega)
    unfold endF
    rw [hbest, hf _ (by omega), h, Nat.add_mul, Nat.one_mul, Nat.mul_comm b]
    rw [show (m + 1 + 3 - (m + 1) % 4) / 4 = (m + 1) / 4 by omega]
theorem range_app (a b : Nat) : List.range a ++ (if a < b then [a] else []) = List.range (if a < b then a + 1 else a) := by
  split
  · rw [List.range_succ]
  · rw [List.append_nil]
theorem ord_same (B : Nat → Nat) (b : Nat) (hb : 1 ≤ b) (h : ∀ m, B m = b) (N : Nat) : ∀ t, ordF B N t = List.range (min N (4 * (t / b)))
  | 0 => by rw [Nat.zero_div]; simp [ordF]
  | t + 1 => by
    have ih := ord_same B b hb h N t
    have hs : ordF B N (t + 1) = ordF B N t ++ ordK B N (t + 1) 4 := by
      unfold ordF
      rw [List.range_succ, List.flatMap_append]
      simp
    have he : ∀ m, endF B m = ((m / 4 + 1) * b, m % 4) := fun m => (free_same B b hb h m 0 (by omega)).2
    rw [hs, ih]
    by_cases hd : (t + 1) % b = 0
    · obtain ⟨q, hq⟩ := Nat.dvd_of_mod_eq_zero hd
      have hq1 : 1 ≤ q := by
        rcases q with _ | q
        · omega
        · omega
      have ht : t / b = q - 1 := by
        have : t = b * (q - 1) + (b - 1) := by
          have : b * q = b * (q - 1) + b := by rw [← Nat.mul_succ]; congr 1; omega
          omega
        rw [this, Nat.mul_add_div (by omega), Nat.div_eq_of_lt (by omega)]
        omega
      have ht1 : (t + 1) / b = q := by rw [hq, Nat.mul_div_cancel_left _ (by omega)]
      rw [ht, ht1]
      have each : ∀ k, k < 4 → ordI B (t + 1) k N = if 4 * (q - 1) + k < N then [4 * (q - 1) + k] else [] := by
        intro k hk
        unfold ordI
        have huniq : ∀ m, (endF B m == (t + 1, k)) = true → m = 4 * (q - 1) + k := by
          intro m hp
          have e := eq_of_beq hp
          rw [he m, hq, Nat.mul_comm b q] at e
          simp only [Prod.mk.injEq] at e
          have := Nat.eq_of_mul_eq_mul_right (by omega) e.1
          omega
        split
        · rename_i hlt
          refine filter_one _ _ _ hlt ?_ (fun m _ hp => huniq m hp)
          rw [he, hq, show (4 * (q - 1) + k) / 4 + 1 = q by omega, show (4 * (q - 1) + k) % 4 = k by omega, Nat.mul_comm q b]
          exact beq_self_eq_true _
        · rename_i hlt
          refine filter_none _ _ (fun m hm => ?_)
          cases hp : endF B m == (t + 1, k) with
          | false => rfl
          | true => have := huniq m hp; omega
      have step : ∀ j, j ≤ 4 → List.range (min N (4 * (q - 1))) ++ ordK B N (t + 1) j = List.range (min N (4 * (q - 1) + j)) := by
        intro j hj
        induction j with
        | zero => simp [ordK]
        | succ j ih2 =>
          have e : ordK B N (t + 1) (j + 1) = ordK B N (t + 1) j ++ ordI B (t + 1) j N := by
            unfold ordK
            rw [List.range_succ, List.flatMap_append]
            simp
          rw [e, ← List.append_assoc, ih2 (by omega), each j (by omega)]
          by_cases hlt : 4 * (q - 1) + j < N
          · rw [if_pos hlt, Nat.min_eq_right (by omega), ← List.range_succ, Nat.min_eq_right (by omega)]
            rfl
          · rw [if_neg hlt, List.append_nil, Nat.min_eq_left (by omega), Nat.min_eq_left (by omega)]
      rw [step 4 (Nat.le_refl _)]
      congr 2
      omega
    · have hnone : ordK B N (t + 1) 4 = [] := by
        unfold ordK
        rw [List.flatMap_eq_nil_iff]
        intro k _
        unfold ordI
        refine filter_none _ _ (fun m _ => ?_)
        rw [beq_eq_false_iff_ne, he]
        intro e
        simp only [Prod.mk.injEq] at e
        exact hd (by rw [← e.1]; exact Nat.mul_mod_left _ _)
      rw [hnone, List.append_nil, show (t + 1) / b = t / b from ?_]
      rw [Nat.succ_div]
      rw [if_neg (fun hdv => hd (Nat.mod_eq_zero_of_dvd hdv))]
      rfl
theorem ord_same_all (B : Nat → Nat) (b : Nat) (hb : 1 ≤ b) (h : ∀ m, B m = b) (N : Nat) : ordF B N (maxF B N) = List.range N := by
  have hB : ∀ m, 1 ≤ B m := fun m => by rw [h]; exact hb
  have a := ord_len B hB N
  have c := ord_same B b hb h N (maxF B N)
  rw [c] at a ⊢
  rw [List.length_range] at a
  rw [a]
end Go.Proofs.YtnlffaglmcddkaaDoor
