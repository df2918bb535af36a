/-
  Laws for the walk: append, copy, bytes to a string, in the words of XMem.
  Plain theorems over any program.
-/
import Derived.Test.YtbajolgfejcecaaMem
import Derived.Laws.OwnMore
import Derived.Laws.BytesString
import Derived.Laws.CopyOwn
import Derived.OwnWalk
namespace Go.Proofs.Ytbajolgfejcecaa
open Go Go.RowKit

theorem add_zero_spot (b off j : Nat) : (⟨b, off, none⟩ : Addr).add j = ⟨b, off + j, none⟩ := by
  unfold Addr.add
  split
  · rename_i h; subst h; rfl
  · rfl

section
variable {P : Program} {w : World}

theorem Row.news {m c : Nat} {news : List Value} {ad : Addr} (h : Row w (some ad) m c news) : ∀ j u, news[j]? = some u → w.cell? (ad.add j) = some u := by
  intro j u hu
  have hj : j < m := by
    have := (List.getElem?_eq_some_iff.1 hu).1
    have := h.1
    omega
  obtain ⟨b, off, e, _, hc⟩ := h.2.2.2.2 (by omega)
  cases e
  rw [add_zero_spot, hc j hj]
  exact hu

theorem run_append_row (base : Nat) (t ty e : TypeId) (z : Value) (bytes : Nat) (ht : P.underlying t = some (.slice e)) (hinfo : (P.info? e).map (fun i => (i.zero, i.size, i.bytes)) = some (some z, 1, bytes)) (hz1 : z.cells = #[z])
    (v : Value) (n : Nat) (xs : List Value) (hown : w.ownsRow base e 1 v n xs) (A : Option Addr) (m c : Nat) (news : List Value) (hr : Row w A m c news) (h1 : ∀ u ∈ news, u.oneCell' = true)
    (hbytes : (n + m) * bytes ≤ 140737488355328) (hb : 0 < bytes) (hbase : base ≤ w.heap.size) :
    ∃ A' c' w', (Builtin.append_ #[t, t] ty #[v, .slice A m c]).run P w = .ok (.slice A' (n + m) c') w' ∧ w'.ownsRow base e 1 (.slice A' (n + m) c') (n + m) (xs ++ news) ∧ Below base w w' ∧ w.grownBy w' v.ownBlock := by
  obtain ⟨i, hi, hzz⟩ := Option.map_eq_some_iff.1 hinfo
  simp only [Prod.mk.injEq] at hzz
  obtain ⟨hz, hs, hby⟩ := hzz
  have h63 : n + m ≤ maxLen := by
    have : n + m ≤ (n + m) * bytes := Nat.le_mul_of_pos_right _ hb
    unfold maxLen; omega
  have close : ∀ v' w', w'.ownsRow base e 1 v' (n + m) (xs ++ news) → w.grownBy w' v.ownBlock → (Builtin.append_ #[t, t] ty #[v, .slice A m c]).run P w = .ok v' w' →
      ∃ A' c' w', (Builtin.append_ #[t, t] ty #[v, .slice A m c]).run P w = .ok (.slice A' (n + m) c') w' ∧ w'.ownsRow base e 1 (.slice A' (n + m) c') (n + m) (xs ++ news) ∧ Below base w w' ∧ w.grownBy w' v.ownBlock := by
    intro v' w' ho hg hrun
    obtain ⟨A', c', e', _, _⟩ := own_form ho
    subst e'
    exact ⟨A', c', w', hrun, ho, (Below.refl base w).grown hg hbase (fun k hk => (hown.lt k hk).1), hg⟩
  rcases A with _ | ad
  · have hc0 : c = 0 := hr.2.2.2.1 rfl
    subst hc0
    have hm : m = 0 := by have := hr.2.1; omega
    subst hm
    have hn : news = [] := List.eq_nil_of_length_eq_zero hr.1
    subst hn
    exact close v w (by simpa using hown) (World.grownBy.refl w _) (run_append_owned_none (P := P) w base t ty e i 1 ht hi v n xs hown)
  · obtain ⟨v', w', hrun, h2, h3, _⟩ := run_append_own (P := P) w base t ty e i z 1 bytes ht hi hz hs hby (by rw [hz1]; rfl) (by omega) v n xs hown ad m c news (by rw [hr.1, Nat.mul_one]) hr.news h1 h63 hbytes hbase
    exact close v' w' h2 h3 hrun

theorem wpList_append {ops : Array Oper} {rest : List Oper} {o : Oper} {a : Act} {Q : Exit → Act → World → Prop} (hgd : o.guard = none) (s x : Operand) (t : TypeId)
    (ho : o.op = .call { callee := .builtin .append, args := #[s, x], argTypes := #[t, t] })
    (base : Nat) (e : TypeId) (z : Value) (bytes : Nat) (ht : P.underlying t = some (.slice e)) (hinfo : (P.info? e).map (fun i => (i.zero, i.size, i.bytes)) = some (some z, 1, bytes)) (hz1 : z.cells = #[z])
    (v : Value) (n : Nat) (xs : List Value) (hs : a.eval s = v) (hown : w.ownsRow base e 1 v n xs) (A : Option Addr) (m c : Nat) (news : List Value) (hx : a.eval x = .slice A m c) (hr : Row w A m c news) (h1 : ∀ u ∈ news, u.oneCell' = true)
    (hbytes : (n + m) * bytes ≤ 140737488355328) (hb : 0 < bytes) (hbase : base ≤ w.heap.size)
    (h : ∀ A' c' w', w'.ownsRow base e 1 (.slice A' (n + m) c') (n + m) (xs ++ news) → Below base w w' → w.grownBy w' v.ownBlock → wpList P ops Q rest (a.put o.dst (.slice A' (n + m) c')) w') : wpList P ops Q (o :: rest) a w := by
  obtain ⟨A', c', w', hrun, h2, h3, h4⟩ := run_append_row (P := P) (w := w) base t o.type e z bytes ht hinfo hz1 v n xs hown A m c news hr h1 hbytes hb hbase
  refine wpList_plain hgd fun K hK => ?_
  unfold Oper.wp
  simp only [execOp, ho, resolve, invoke, builtin, Sem.run_bind, Sem.run_pure, Result.andThen_ok, List.map_toArray, List.map_cons, List.map_nil, hs, hx, hrun]
  exact hK _ _ (h A' c' w' h2 h3 h4)

/-- 'string(b)'. -/
theorem loadCells_row {n c : Nat} {xs : List Value} {ad : Addr} (h : Row w (some ad) n c xs) : (loadCells ad n).run P w = .ok xs.toArray w := by
  have := run_loadCells_list (P := P) (w := w) ad xs h.news
  rw [h.1] at this
  exact this

theorem push_bytes (bs : List UInt8) : ∀ (r : ByteArray), (bs.map fun x => (x.toNat : Int)).foldl (fun r n => r.push (UInt8.ofNat n.toNat)) r = ⟨r.data ++ bs.toArray⟩ := by
  induction bs with
  | nil => intro r; simp
  | cons b bs ih =>
    intro r
    simp only [List.map_cons, List.foldl_cons]
    rw [ih]
    have : (UInt8.ofNat ((b.toNat : Int)).toNat) = b := by simp
    rw [this]
    show ByteArray.mk ((r.data.push b) ++ bs.toArray) = _
    congr 1
    simp

theorem run_string_SB {src dst e : TypeId} {A : Option Addr} {n c : Nat} {bs : List UInt8} (hs : P.underlying src = some (.slice e)) (he : P.underlying e = some (.int .u8)) (hd : P.underlying dst = some .string)
    (h : SB w A n c bs) : (convert src dst (.slice A n c)).run P w = .ok (.string ⟨bs.toArray⟩) w := by
  rw [run_convert_bytes_string w src dst e A n c hs he hd]
  rcases A with _ | ad
  · have h0 : c = 0 := h.2.2.2.1 rfl
    have hn : n = 0 := by have := h.cap; omega
    have hb : bs = [] := List.eq_nil_of_length_eq_zero (by rw [h.len, hn])
    subst hb
    rfl
  · have hl := loadCells_row (P := P) (w := w) h
    have e1 : bs.map b8 = (bs.map fun x => (x.toNat : Int)).map (Value.int .u8) := by simp [Function.comp_def]
    rw [e1] at hl
    rw [run_bytesToString w ad n c _ hl, push_bytes]
    congr 2
    show ByteArray.mk (#[] ++ bs.toArray) = _
    simp

end
end Go.Proofs.Ytbajolgfejcecaa
