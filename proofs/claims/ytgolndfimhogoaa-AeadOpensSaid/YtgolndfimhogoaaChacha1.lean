/-
  The walk of chacha.Quarter.
-/
import Derived.Test.YtgolndfimhogoaaLeft
namespace Go.Proofs.Ytgolndfimhogoaa
open Go Go.RowKit
set_option linter.unusedSimpArgs false


abbrev b32 (x : UInt32) : Value := .int .u32 (x.toNat : Int)
theorem results_tmp4 {fn : Func} {t u v x : Tmp} (h : fn.results = #[.tmp t, .tmp u, .tmp v, .tmp x]) (tmps : Array Value) (P : Program) (w : World) :
    (results fn tmps).run P w = .ok (.tuple #[tmps.getD t undef, tmps.getD u undef, tmps.getD v undef, tmps.getD x undef]) w := by
  simp [results, h]
structure Q4 where
  a : UInt32
  b : UInt32
  c : UInt32
  d : UInt32
  deriving DecidableEq
def qStep (r1 r2 : Int) (q : Q4) : Q4 :=
  let a1 := q.a + q.b
  let d1 := leftF (q.d ^^^ a1) r1
  let c1 := q.c + d1
  let b1 := leftF (q.b ^^^ c1) r2
  ⟨a1, b1, c1, d1⟩
def quarterF (q : Q4) : Q4 := qStep 8 7 (qStep 16 12 q)

set_option maxRecDepth 100000 in
set_option maxHeartbeats 4000000 in
theorem quarter_any (a b c d : UInt32) (w : World) :
    Calls Try.prog 36 #[b32 a, b32 b, b32 c, b32 d] w fun e w' => e = .returned (.tuple #[b32 (quarterF ⟨a, b, c, d⟩).a, b32 (quarterF ⟨a, b, c, d⟩).b, b32 (quarterF ⟨a, b, c, d⟩).c, b32 (quarterF ⟨a, b, c, d⟩).d]) ∧ Grows w w' := by
  have hi0 : ∀ W, Sem.run Try.prog (Instr.index 85 (.agg #[.int .i64 16, .int .i64 12, .int .i64 8, .int .i64 7]) (.int .i64 0)) W = .ok (.agg #[.int .i64 16, .int .i64 12]) W := fun _ => rfl
  have hi1 : ∀ W, Sem.run Try.prog (Instr.index 85 (.agg #[.int .i64 16, .int .i64 12, .int .i64 8, .int .i64 7]) (.int .i64 1)) W = .ok (.agg #[.int .i64 8, .int .i64 7]) W := fun _ => rfl
  go_enter Try.func36, Try.ntmps36
  go_wp2
  go_loopw [0, 1, 2, 3, 13, 17] (fun va vb vc vd _ i wr => ∃ (k : Nat) (q : Q4), i = .int .i64 k ∧ va = b32 q.a ∧ vb = b32 q.b ∧ vc = b32 q.c ∧ vd = b32 q.d ∧ Grows w wr ∧
      Hid ((k = 0 ∧ q = ⟨a, b, c, d⟩) ∨ (k = 1 ∧ q = qStep 16 12 ⟨a, b, c, d⟩) ∨ (k = 2 ∧ q = quarterF ⟨a, b, c, d⟩))) (fun _ _ _ _ _ i _ => 2 - (intOf i).toNat)
  case atStart => exact ⟨0, ⟨a, b, c, d⟩, rfl, rfl, rfl, rfl, rfl, Grows.refl _, Or.inl ⟨rfl, rfl⟩⟩
  case round =>
    obtain ⟨k, ⟨qa, qb, qc, qd⟩, rfl, rfl, rfl, rfl, rfl, hgr, hq⟩ := hrel
    rcases hq.out with ⟨rfl, e⟩ | ⟨rfl, e⟩ | ⟨rfl, e⟩
    · have He := lib_hid e
      clear e hq
      obtain ⟨a1, Ha1, ha1⟩ : ∃ v : UInt32, Hid (qa + qb = v) ∧ IntKind.u32.wrap ((qa.toNat : Int) + (qb.toNat : Int)) = (v.toNat : Int) := ⟨_, lib_hid rfl, u32_wrap_add _ _⟩
      obtain ⟨x1, Hx1, hx1⟩ : ∃ v : UInt32, Hid (qd ^^^ a1 = v) ∧ bits .xor .u32 (qd.toNat : Int) (a1.toNat : Int) = (v.toNat : Int) := ⟨_, lib_hid rfl, u32_xor _ _⟩
      obtain ⟨d1, Hd1⟩ : ∃ v : UInt32, Hid (leftF x1 16 = v) := ⟨_, lib_hid rfl⟩
      obtain ⟨c1, Hc1, hc1⟩ : ∃ v : UInt32, Hid (qc + d1 = v) ∧ IntKind.u32.wrap ((qc.toNat : Int) + (d1.toNat : Int)) = (v.toNat : Int) := ⟨_, lib_hid rfl, u32_wrap_add _ _⟩
      obtain ⟨x2, Hx2, hx2⟩ : ∃ v : UInt32, Hid (qb ^^^ c1 = v) ∧ bits .xor .u32 (qb.toNat : Int) (c1.toNat : Int) = (v.toNat : Int) := ⟨_, lib_hid rfl, u32_xor _ _⟩
      obtain ⟨b1, Hb1⟩ : ∃ v : UInt32, Hid (leftF x2 12 = v) := ⟨_, lib_hid rfl⟩
      have Hq : Hid (qStep 16 12 ⟨qa, qb, qc, qd⟩ = ⟨a1, b1, c1, d1⟩) := by
        unfold Hid qStep
        simp only [Ha1.out, Hx1.out, Hd1.out, Hc1.out, Hx2.out, Hb1.out]
      go_wp2_with fail
      refine (left_any x1 16 _).mono ?_
      rintro e w1 ⟨rfl, rfl⟩
      rw [Hd1.out]
      go_wp2_with fail
      refine (left_any x2 12 _).mono ?_
      rintro e w1 ⟨rfl, rfl⟩
      rw [Hb1.out]
      go_wp2
      go_roundw
      case rel => exact ⟨1, ⟨a1, b1, c1, d1⟩, rfl, rfl, rfl, rfl, rfl, hgr.alloc _, Or.inr (Or.inl ⟨rfl, by rw [← He.out, Hq.out]⟩)⟩
      case measure => simp [intOf]
    · have He := lib_hid e
      clear e hq
      obtain ⟨a1, Ha1, ha1⟩ : ∃ v : UInt32, Hid (qa + qb = v) ∧ IntKind.u32.wrap ((qa.toNat : Int) + (qb.toNat : Int)) = (v.toNat : Int) := ⟨_, lib_hid rfl, u32_wrap_add _ _⟩
      obtain ⟨x1, Hx1, hx1⟩ : ∃ v : UInt32, Hid (qd ^^^ a1 = v) ∧ bits .xor .u32 (qd.toNat : Int) (a1.toNat : Int) = (v.toNat : Int) := ⟨_, lib_hid rfl, u32_xor _ _⟩
      obtain ⟨d1, Hd1⟩ : ∃ v : UInt32, Hid (leftF x1 8 = v) := ⟨_, lib_hid rfl⟩
      obtain ⟨c1, Hc1, hc1⟩ : ∃ v : UInt32, Hid (qc + d1 = v) ∧ IntKind.u32.wrap ((qc.toNat : Int) + (d1.toNat : Int)) = (v.toNat : Int) := ⟨_, lib_hid rfl, u32_wrap_add _ _⟩
      obtain ⟨x2, Hx2, hx2⟩ : ∃ v : UInt32, Hid (qb ^^^ c1 = v) ∧ bits .xor .u32 (qb.toNat : Int) (c1.toNat : Int) = (v.toNat : Int) := ⟨_, lib_hid rfl, u32_xor _ _⟩
      obtain ⟨b1, Hb1⟩ : ∃ v : UInt32, Hid (leftF x2 7 = v) := ⟨_, lib_hid rfl⟩
      have Hq : Hid (qStep 8 7 ⟨qa, qb, qc, qd⟩ = ⟨a1, b1, c1, d1⟩) := by
        unfold Hid qStep
        simp only [Ha1.out, Hx1.out, Hd1.out, Hc1.out, Hx2.out, Hb1.out]
      go_wp2_with fail
      refine (left_any x1 8 _).mono ?_
      rintro e w1 ⟨rfl, rfl⟩
      rw [Hd1.out]
      go_wp2_with fail
      refine (left_any x2 7 _).mono ?_
      rintro e w1 ⟨rfl, rfl⟩
      rw [Hb1.out]
      go_wp2
      go_roundw
      case rel => exact ⟨2, ⟨a1, b1, c1, d1⟩, rfl, rfl, rfl, rfl, rfl, hgr.alloc _, Or.inr (Or.inr ⟨rfl, by unfold quarterF; rw [← He.out, Hq.out]⟩)⟩
      case measure => simp [intOf]
    · have He := lib_hid e
      clear e hq
      go_wp2
      (try simp only [Exit.inBlock, Exit.then])
      refine bodyPost_ret (results_tmp4 rfl _ _ _) rfl ?_
      exact ⟨by rw [← He.out]; rfl, hgr⟩

theorem quarter_c : quarterF ⟨286331153, 16909060, 2609737539, 19088743⟩ = ⟨3928658676, 3407673550, 1166100270, 1484899515⟩ := by decide +kernel
end Go.Proofs.Ytgolndfimhogoaa
