/-
  The arguments of a law, opened: numbers as Lean's own, bytes as a list.
-/
import Derived.Test.YthcmdjaccjghjaaRows
import Derived.Test.YthcmdjaccjghjaaOps
import Derived.ProofKit
import Derived.OpenShut
import Derived.ShutString
import Derived.ChangeOld
import Derived.Below
namespace Go.Proofs.Ythcmdjaccjghjaa
open Go Go.RowKit Go.ChangeShapes Go.WideShapes Go.ChangeAt

theorem Try.own : ownKnob Try.prog.godebug = none := by kernel_rfl
theorem Try.laidOut : laidOutB Try.prog = true := by kernel_rfl

theorem of_u8 {x : Int} (h : (Lit.int .u8 x).wf = true) : ∃ y : UInt8, x = (y.toNat : Int) := by
  have := bounds_u8 h
  exact ⟨UInt8.ofNat x.toNat, by rw [UInt8.toNat_ofNat']; omega⟩
theorem of_u16 {x : Int} (h : (Lit.int .u16 x).wf = true) : ∃ y : UInt16, x = (y.toNat : Int) := by
  have := bounds_u16 h
  exact ⟨UInt16.ofNat x.toNat, by rw [UInt16.toNat_ofNat']; omega⟩
theorem of_u32 {x : Int} (h : (Lit.int .u32 x).wf = true) : ∃ y : UInt32, x = (y.toNat : Int) := by
  have := bounds_u32 h
  exact ⟨UInt32.ofNat x.toNat, by rw [UInt32.toNat_ofNat']; omega⟩
theorem of_u64 {x : Int} (h : (Lit.int .u64 x).wf = true) : ∃ y : UInt64, x = (y.toNat : Int) := by
  have := bounds_u64 h
  exact ⟨UInt64.ofNat x.toNat, by rw [UInt64.toNat_ofNat']; omega⟩

theorem bytes_of {zs : List Int} (h : ∀ n ∈ zs, (Lit.int .u8 n).wf = true) : ∃ bs : List UInt8, zs = bs.map fun x => (x.toNat : Int) := by
  induction zs with
  | nil => exact ⟨[], rfl⟩
  | cons z zs ih =>
    obtain ⟨bs, hb⟩ := ih (fun n hn => h n (by simp [hn]))
    obtain ⟨y, hy⟩ := of_u8 (h z (by simp))
    exact ⟨y :: bs, by rw [List.map_cons, ← hb, hy]⟩

theorem open_bytes {H : Type} {enc : TypeId × Value → H} {P : Program} {w : World} {t e : TypeId} (ht : P.underlying t = some (.slice e)) (he : P.underlying e = some (.int .u8)) (hc : P.cellsOf e = 1)
    {a : Option Addr} {len cap base : Nat} {hd : Bool} {x : DataW H × List MemPlace} {fuel : Nat} (h : DataW.trod enc P w base (fun _ => true) hd fuel t (Value.slice a len cap).cells.toList = some x) :
    ∃ bs, SB w a len cap bs := by
  rcases open_ints ht he hc h with ⟨hcs, _⟩ | ⟨ad, l, c, zs, hcs, _, hl, hm, hz, _, hcell, hwz⟩
  · simp [Value.cells] at hcs
    obtain ⟨rfl, rfl, rfl⟩ := hcs
    exact ⟨[], SB.nil w⟩
  · simp [Value.cells] at hcs
    obtain ⟨rfl, rfl, rfl⟩ := hcs
    simp only [if_true] at hz
    obtain ⟨bs, hbs⟩ := bytes_of hwz
    have hlb : bs.length = cap := by rw [← hz, hbs]; simp
    refine ⟨bs.take len, by simp; omega, hl, hm, fun e => (by cases e), fun hn => ?_⟩
    have hc0 := hcell 0 (by omega)
    obtain ⟨b, off, spot⟩ := ad
    have hspot : spot = none := by simpa [Addr.add] using World.cell?_spot hc0
    subst hspot
    refine ⟨b, off, rfl, World.block_lt_of_cell? w ⟨b, off, none⟩ (by simpa [Addr.add] using hc0), fun j hj => ?_⟩
    have hj' : j < bs.length := by omega
    have hcj := hcell j (by omega)
    rw [add_zero_spot] at hcj
    rw [hcj, hbs]
    simp [hj, hj', List.getD]

end Go.Proofs.Ythcmdjaccjghjaa
