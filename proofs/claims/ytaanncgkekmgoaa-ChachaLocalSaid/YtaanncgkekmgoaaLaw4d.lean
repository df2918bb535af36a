/-
  The walks of the laws of layer 4: ChachaLocal.
-/
import Derived.Test.YtaanncgkekmgoaaLaw4b
import Derived.Test.YtaanncgkekmgoaaMonoJ
import Derived.Test.YtaanncgkekmgoaaOpenLocal
import Derived.Deep.Cut
namespace Go.Proofs.Ytaanncgkekmgoaa
open Go Go.RowKit
set_option linter.unusedSimpArgs false


theorem Try.sizeKey : (Try.prog.info? 26).map (·.size) = some 45 := by kernel_rfl
/-- While the argument is taken apart: the key's own block is made, then filled. -/
def LocI (W0 : World) (zs : List Value) (m : Nat) (W : World) : Prop :=
  Grows W0 W ∧ (m = 0 → W.heap.size = W0.heap.size) ∧ (m = 1 → Blk W W0.heap.size 26 ((Value.int .u8 0 :: Value.int .u8 0 :: Value.int .u8 0 :: Value.int .u8 0 :: Value.int .u8 0 :: Value.int .u8 0 :: Value.int .u8 0 :: Value.int .u8 0 :: Value.int .u8 0 :: Value.int .u8 0 :: Value.int .u8 0 :: Value.int .u8 0 :: Value.int .u8 0 :: Value.int .u8 0 :: Value.int .u8 0 :: Value.int .u8 0 :: Value.int .u8 0 :: Value.int .u8 0 :: Value.int .u8 0 :: Value.int .u8 0 :: Value.int .u8 0 :: Value.int .u8 0 :: Value.int .u8 0 :: Value.int .u8 0 :: Value.int .u8 0 :: Value.int .u8 0 :: Value.int .u8 0 :: Value.int .u8 0 :: Value.int .u8 0 :: Value.int .u8 0 :: Value.int .u8 0 :: Value.int .u8 0 :: Value.int .u8 0 :: Value.int .u8 0 :: Value.int .u8 0 :: Value.int .u8 0 :: Value.int .u8 0 :: Value.int .u8 0 :: Value.int .u8 0 :: Value.int .u8 0 :: Value.int .u8 0 :: Value.int .u8 0 :: Value.int .u8 0 :: Value.int .u8 0 :: Value.int .u32 0 :: [] : List Value).toArray)) ∧ (2 ≤ m → Blk W W0.heap.size 26 zs.toArray)
theorem xorF_set (a s : List UInt8) (k : Nat) (y : UInt8) (h : k < a.length) (hl : s.length = a.length) : xorF (a.set k (a.getD k 0 ^^^ y)) s = (xorF a s).set k ((xorF a s).getD k 0 ^^^ y) := by
  have e1 : a.getD k 0 = a[k] := by simp [List.getD, h]
  have e2 : (xorF a s).getD k 0 = a[k] ^^^ s[k]'(by omega) := by simp [xorF, List.getD, h, hl]
  rw [e1, e2]
  apply List.ext_getElem
  · simp [xorF]
  · intro i h1 h2
    simp only [xorF, List.getElem_zipWith, List.getElem_set]
    by_cases he : k = i
    · subst he
      simp only [if_true]
      rw [UInt8.xor_assoc, UInt8.xor_assoc, UInt8.xor_comm y]
    · simp [he]
theorem crypt_local (key nonce : List UInt8) (n : UInt32) (bs : List UInt8) (k : Nat) (y : UInt8) (h : k < bs.length) :
    cryptF key nonce n (bs.set k (bs.getD k 0 ^^^ y)) = (cryptF key nonce n bs).set k ((cryptF key nonce n bs).getD k 0 ^^^ y) := by
  unfold cryptF
  rw [List.length_set]
  exact xorF_set _ _ k y h (streamF_len _ _ _ _)

set_option maxRecDepth 100000 in
set_option maxHeartbeats 4000000 in
theorem walk_ChachaLocal (key nonce : List UInt8) (ctr : UInt32) (A : Option Addr) (l c : Nat) (bs : List UInt8) (at_ : UInt16) (y : UInt8) (w : World) (hk : key.length = 32) (hn : nonce.length = 12) (hs : SB w A l c bs) :
    Calls Try.prog 8 #[.agg ((key.map b8 ++ (nonce.map b8 ++ [b32 ctr])) ++ [Value.slice A l c, Value.int .u16 at_.toNat, Value.int .u8 y.toNat]).toArray] w fun e w' => e = .returned (.bool true) ∧ Below w.heap.size w w' := by
  obtain ⟨zs, Hz⟩ : ∃ zs : List Value, Hid (zs = key.map b8 ++ (nonce.map b8 ++ [b32 ctr])) := ⟨_, lib_hid rfl⟩
  rw [← Hz.out]
  have Hzl : Hid (zs.length = 45) := by unfold Hid; rw [Hz.out]; simp [hk, hn]
  have Hz1 : Hid (zs.toArray.all (·.oneCell') = true) := by
    unfold Hid
    rw [Hz.out, Array.all_eq_true_iff_forall_mem]
    intro v hv
    simp at hv
    rcases hv with ⟨x, _, rfl⟩ | ⟨x, _, rfl⟩ | rfl <;> rfl
  obtain ⟨qs, Hq⟩ : ∃ qs : List Value, Hid (qs = zs ++ [Value.slice A l c, Value.int .u16 at_.toNat, Value.int .u8 y.toNat]) := ⟨_, lib_hid rfl⟩
  rw [← Hq.out]
  obtain ⟨W0, HW0, hW0, hg0⟩ : ∃ W0 : World, Hid (W0 = w.alloc (.cells qs.toArray 47)) ∧ W0.heap.size = w.heap.size + 1 ∧ Grows w W0 := ⟨_, lib_hid rfl, by simp, (Grows.refl w).alloc _⟩
  have HZ : Hid (Blk W0 w.heap.size 47 qs.toArray) := by unfold Hid; rw [HW0.out]; exact Blk.new _ _ _
  have HFz : Hid (∀ W, Grows W0 W → Row W (some ⟨w.heap.size, 0, none⟩) 45 45 zs) := fun W hW => by
    have := (HZ.out.grows hW).row (o := 0) (n := 45) (c := 45) (by omega) (by rw [Hq.out]; simp [Hzl.out]) (by unfold maxLen; omega)
    rw [Hq.out] at this
    simpa [List.take_append, Hzl.out, List.take_of_length_le] using this
  have HFb : Hid (∀ W, Grows W0 W → W.cell? ⟨w.heap.size, 45, none⟩ = some (.slice A l c)) := fun W hW => by
    rw [(HZ.out.grows hW).cell, Hq.out]
    simp [List.getElem?_append_right, Hzl.out]
  have HFa : Hid (∀ W, Grows W0 W → W.cell? ⟨w.heap.size, 46, none⟩ = some (.int .u16 at_.toNat)) := fun W hW => by
    rw [(HZ.out.grows hW).cell, Hq.out]
    simp [List.getElem?_append_right, Hzl.out]
  have HFy : Hid (∀ W, Grows W0 W → W.cell? ⟨w.heap.size, 47, none⟩ = some (.int .u8 y.toNat)) := fun W hW => by
    rw [(HZ.out.grows hW).cell, Hq.out]
    simp [List.getElem?_append_right, Hzl.out]
  have hI0 : LocI W0 zs 0 W0.drew := ⟨(Grows.refl W0).drew, fun _ => rfl, fun h => by omega, fun h => by omega⟩
  have hlen := lib_hid hs.len
  have HS := lib_hid (hs.grows hg0)
  have hcap := hs.cap
  have Hkl := lib_hid hk
  have Hnl := lib_hid hn
  have HW0' := HW0.out
  clear hs hk hn hW0
  go_enter Try.func8, Try.ntmps8
  go_upto_region 1 with fail
  rw [← HW0']
  clear HW0'
  apply wp_region_monoJ (fun _ _ => True) (fun _ => trivial) (ChainJ [8, 9] (fun m W => LocI W0 zs m W)) #[0, 1, 0, 4, 0, 16, 0, 64, 0, 259, 783, 1855, 4095] 13 ((.is _, []) :: (.is (.agg zs.toArray), []) :: (.is _, []) :: (.is _, []) :: (.is _, []) :: (.is _, []) :: (.is _, []) :: (.is _, []) :: (.is (.pointer (some ⟨W0.heap.size, 0, none⟩)), []) :: (.is undef, []) :: (.is _, []) :: (.is _, []) :: (.is _, []) :: []) (by kernel_rfl) (chain_start (hI0)) (by kernel_rfl)
  apply MonoJ.is0
  · kernel_rfl
  · intro L W hLk hsh hah hJ
    have hJ2 := lib_hid (chain_pure (k := 0) (w' := W) (by decide) (fun _ h => h) hJ)
    clear hJ hsh hah
    go_wp2
    refine ⟨rfl, rfl, ⟨trivial, hJ2.out⟩, ?_⟩
    unfold Oper.valAt
    go_simp
    rfl
  intro k1 a1 hk1 ha1
  simp only [Nat.reduceAdd] at hk1
  simp only [Act.put, List.setIfInBounds_toArray, List.set_cons_succ, List.set_cons_zero] at ha1
  subst hk1 ha1
  apply MonoJ.is0
  · kernel_rfl
  · intro L W hLk hsh hah hJ
    have hgW : Grows W0 W := by obtain ⟨m, _, hI⟩ := hJ; exact hI.1
    have hJ2 := lib_hid (chain_pure (k := 1) (w' := W) (by decide) (fun _ h => h) hJ)
    clear hJ hsh hah
    go_wp2_with (refine wpList_load_part (by kernel_rfl) _ _ rfl ⟨w.heap.size, 0, none⟩ rfl 45 45 zs _ (HFz.out W hgW) Try.underlying26 rfl Try.sizeKey ?_)
    first | exact ⟨rfl, rfl, hJ2.out, rfl⟩ | exact ⟨rfl, rfl, ⟨trivial, hJ2.out⟩, rfl⟩
  intro k1 a1 hk1 ha1
  simp only [Nat.reduceAdd] at hk1
  simp only [Act.put, List.setIfInBounds_toArray, List.set_cons_succ, List.set_cons_zero] at ha1
  subst hk1 ha1
  apply MonoJ.is0
  · kernel_rfl
  · intro L W hLk hsh hah hJ
    have hJ2 := lib_hid (chain_pure (k := 2) (w' := W) (by decide) (fun _ h => h) hJ)
    clear hJ hsh hah
    go_wp2
    refine ⟨rfl, rfl, ⟨trivial, hJ2.out⟩, ?_⟩
    unfold Oper.valAt
    go_simp
    rfl
  intro k1 a1 hk1 ha1
  simp only [Nat.reduceAdd] at hk1
  simp only [Act.put, List.setIfInBounds_toArray, List.set_cons_succ, List.set_cons_zero] at ha1
  subst hk1 ha1
  apply MonoJ.is0
  · kernel_rfl
  · intro L W hLk hsh hah hJ
    have hgW : Grows W0 W := by obtain ⟨m, _, hI⟩ := hJ; exact hI.1
    have hcc := HFb.out W hgW
    clear hgW
    have hJ2 := lib_hid (chain_pure (k := 3) (w' := W) (by decide) (fun _ h => h) hJ)
    clear hJ hsh hah
    go_wp2
    refine ⟨rfl, rfl, ⟨trivial, hJ2.out⟩, ?_⟩
    unfold Oper.valAt
    go_simp
    rfl
  intro k1 a1 hk1 ha1
  simp only [Nat.reduceAdd] at hk1
  simp only [Act.put, List.setIfInBounds_toArray, List.set_cons_succ, List.set_cons_zero] at ha1
  subst hk1 ha1
  apply MonoJ.is0
  · kernel_rfl
  · intro L W hLk hsh hah hJ
    have hJ2 := lib_hid (chain_pure (k := 4) (w' := W) (by decide) (fun _ h => h) hJ)
    clear hJ hsh hah
    go_wp2
    refine ⟨rfl, rfl, ⟨trivial, hJ2.out⟩, ?_⟩
    unfold Oper.valAt
    go_simp
    rfl
  intro k1 a1 hk1 ha1
  simp only [Nat.reduceAdd] at hk1
  simp only [Act.put, List.setIfInBounds_toArray, List.set_cons_succ, List.set_cons_zero] at ha1
  subst hk1 ha1
  apply MonoJ.is0
  · kernel_rfl
  · intro L W hLk hsh hah hJ
    have hgW : Grows W0 W := by obtain ⟨m, _, hI⟩ := hJ; exact hI.1
    have hcc := HFa.out W hgW
    clear hgW
    have hJ2 := lib_hid (chain_pure (k := 5) (w' := W) (by decide) (fun _ h => h) hJ)
    clear hJ hsh hah
    go_wp2
    refine ⟨rfl, rfl, ⟨trivial, hJ2.out⟩, ?_⟩
    unfold Oper.valAt
    go_simp
    rfl
  intro k1 a1 hk1 ha1
  simp only [Nat.reduceAdd] at hk1
  simp only [Act.put, List.setIfInBounds_toArray, List.set_cons_succ, List.set_cons_zero] at ha1
  subst hk1 ha1
  apply MonoJ.is0
  · kernel_rfl
  · intro L W hLk hsh hah hJ
    have hJ2 := lib_hid (chain_pure (k := 6) (w' := W) (by decide) (fun _ h => h) hJ)
    clear hJ hsh hah
    go_wp2
    refine ⟨rfl, rfl, ⟨trivial, hJ2.out⟩, ?_⟩
    unfold Oper.valAt
    go_simp
    rfl
  intro k1 a1 hk1 ha1
  simp only [Nat.reduceAdd] at hk1
  simp only [Act.put, List.setIfInBounds_toArray, List.set_cons_succ, List.set_cons_zero] at ha1
  subst hk1 ha1
  apply MonoJ.is0
  · kernel_rfl
  · intro L W hLk hsh hah hJ
    have hgW : Grows W0 W := by obtain ⟨m, _, hI⟩ := hJ; exact hI.1
    have hcc := HFy.out W hgW
    clear hgW
    have hJ2 := lib_hid (chain_pure (k := 7) (w' := W) (by decide) (fun _ h => h) hJ)
    clear hJ hsh hah
    go_wp2
    refine ⟨rfl, rfl, ⟨trivial, hJ2.out⟩, ?_⟩
    unfold Oper.valAt
    go_simp
    rfl
  intro k1 a1 hk1 ha1
  simp only [Nat.reduceAdd] at hk1
  simp only [Act.put, List.setIfInBounds_toArray, List.set_cons_succ, List.set_cons_zero] at ha1
  subst hk1 ha1
  apply MonoJ.is0
  · kernel_rfl
  · intro L W hLk hsh hah hJ
    obtain ⟨hI, hLs⟩ := chain_at (i := 0) (k := 8) rfl hLk (fun j h => by cases h) hJ
    clear hJ hsh hah
    have hsz := hI.2.1 rfl
    have hend : Hid (∀ w2, (fun m W => LocI W0 zs m W) 1 w2 → ChainJ [8, 9] (fun m W => LocI W0 zs m W) (setL L 8) w2) := fun w2 hw => chain_step (i := 0) (k := 8) rfl (by intro j h; rcases j with _ | _ | _ | _ | _ | _ <;> simp at h <;> omega) hLs hw
    clear hLs hLk
    go_wp2
    first | refine ⟨rfl, rfl, hend.out _ ?_, ?_⟩ | refine ⟨rfl, rfl, ⟨trivial, hend.out _ ?_⟩, ?_⟩
    · exact ⟨hI.1.alloc _, fun h => by omega, fun _ => by rw [← hsz]; exact Blk.new _ _ _, fun h => by omega⟩
    · unfold Oper.valAt
      go_simp
  intro k1 a1 hk1 ha1
  simp only [Nat.reduceAdd] at hk1
  simp only [Act.put, List.setIfInBounds_toArray, List.set_cons_succ, List.set_cons_zero] at ha1
  subst hk1 ha1
  apply MonoJ.is0
  · kernel_rfl
  · intro L W hLk hsh hah hJ
    obtain ⟨hI, hLs⟩ := chain_at (i := 1) (k := 9) rfl hLk (fun j h => by cases h; exact ⟨8, rfl, hah 8 (by omega) (by kernel_rfl)⟩) hJ
    clear hJ hsh hah
    have hB := hI.2.2.1 rfl
    have hgI := hI.1
    have hend : Hid (∀ w2, (fun m W => LocI W0 zs m W) 2 w2 → ChainJ [8, 9] (fun m W => LocI W0 zs m W) (setL L 9) w2) := fun w2 hw => chain_step (i := 1) (k := 9) rfl (by intro j h; rcases j with _ | _ | _ | _ | _ | _ <;> simp at h <;> omega) hLs hw
    clear hLs hLk
    go_wp2_with (refine wpList_store_blk (by kernel_rfl) _ _ _ rfl W0.heap.size zs.toArray rfl rfl 26 _ hB (by rw [Try.sizeKey]; simp [Hzl.out]) (by simp [Hzl.out]) Hz1.out W0.heap.size W0 hgI (Nat.le_refl _) ?_; intro w9 HA9 hb9 hg9)
    first | refine ⟨rfl, rfl, hend.out _ ?_, ?_⟩ | refine ⟨rfl, rfl, ⟨trivial, hend.out _ ?_⟩, ?_⟩
    · exact ⟨hb9, fun h => by omega, fun h => by omega, fun _ => HA9⟩
    · rfl
  intro k1 a1 hk1 ha1
  simp only [Nat.reduceAdd] at hk1
  simp only [Act.put, List.setIfInBounds_toArray, List.set_cons_succ, List.set_cons_zero] at ha1
  subst hk1 ha1
  apply MonoJ.is0
  · kernel_rfl
  · intro L W hLk hsh hah hJ
    have hJ2 := lib_hid (chain_pure (k := 10) (w' := W) (by decide) (fun _ h => h) hJ)
    clear hJ hsh hah
    go_wp2
    refine ⟨rfl, rfl, ⟨trivial, hJ2.out⟩, ?_⟩
    unfold Oper.valAt
    go_simp
    rfl
  intro k1 a1 hk1 ha1
  simp only [Nat.reduceAdd] at hk1
  simp only [Act.put, List.setIfInBounds_toArray, List.set_cons_succ, List.set_cons_zero] at ha1
  subst hk1 ha1
  apply MonoJ.is0
  · kernel_rfl
  · intro L W hLk hsh hah hJ
    have hJ2 := lib_hid (chain_pure (k := 11) (w' := W) (by decide) (fun _ h => h) hJ)
    clear hJ hsh hah
    go_wp2
    refine ⟨rfl, rfl, ⟨trivial, hJ2.out⟩, ?_⟩
    unfold Oper.valAt
    go_simp
    rfl
  intro k1 a1 hk1 ha1
  simp only [Nat.reduceAdd] at hk1
  simp only [Act.put, List.setIfInBounds_toArray, List.set_cons_succ, List.set_cons_zero] at ha1
  subst hk1 ha1
  apply MonoJ.is0
  · kernel_rfl
  · intro L W hLk hsh hah hJ
    have hJ2 := lib_hid (chain_pure (k := 12) (w' := W) (by decide) (fun _ h => h) hJ)
    clear hJ hsh hah
    go_wp2
    refine ⟨rfl, rfl, ⟨trivial, hJ2.out⟩, ?_⟩
    unfold Oper.valAt
    go_simp
    rfl
  intro k1 a1 hk1 ha1
  simp only [Nat.reduceAdd] at hk1
  simp only [Act.put, List.setIfInBounds_toArray, List.set_cons_succ, List.set_cons_zero] at ha1
  subst hk1 ha1
  refine MonoJ.done ?_
  intro wm hJ
  obtain ⟨mj, hm, hI⟩ := chain_end (by decide) hJ
  clear hJ
  simp only [allF, List.drop_succ_cons, List.drop_nil]
  have hgm := hI.1
  have HZ2 := lib_hid (hI.2.2.2 hm)
  have HSm := lib_hid (HS.out.grows hgm)
  have hgw : Grows w wm := hg0.trans hgm
  have hsm := hgm.le
  have hsm2 : W0.heap.size < wm.heap.size := HZ2.out.lt
  clear HFz HFb HFa HFy HZ hI hI0 hgm HS
  go_upto_region 2 with fail
  by_cases hbig : 600 < l
  · have h1 : (600 : Int) < l := by omega
    go_wp2
    go_ret
    exact ⟨rfl, hgw⟩
  have h1 : ¬ (600 : Int) < l := by omega
  by_cases hz : l = 0
  · have h2 : (l : Int) = 0 := by omega
    go_wp2
    go_ret
    exact ⟨rfl, hgw⟩
  have h2 : ¬ (l : Int) = 0 := by omega
  obtain ⟨k, hkm, hkl⟩ : ∃ k : Nat, (wrap64 (at_.toNat : Int)).tmod (l : Int) = (k : Int) ∧ k < l := ⟨at_.toNat % l, by
    have := u16_lt at_
    rw [show wrap64 (at_.toNat : Int) = at_.toNat by unfold wrap64; omega, Int.tmod_eq_emod_of_nonneg (by omega)]
    exact (Int.natCast_emod _ _).symm, Nat.mod_lt _ (by omega)⟩
  have ho := World.ownsRow_lit (base := wm.heap.size) (e := 5) (size := 1) wm #[] 0 (Nat.le_refl _) (by unfold maxLen; omega) rfl
  have hr := HSm.out.grows ((Grows.refl wm).alloc (.cells #[] 5))
  have HH := lib_hid (And.intro hr ho)
  clear hr ho
  go_upto_region 5 with fail
  clear hkm h1 h2
  go_upto_region 6 with (at_builtin; refine wpList_append rfl _ _ 32 rfl wm.heap.size 5 (.int .u8 0) 1 Try.underlying32 Try.infoByte rfl _ 0 [] rfl HH.out.2 _ _ _ (bs.map b8) rfl HH.out.1 (b8_one bs) (by omega) (by omega) (by simp) ?_; intro A3 c3 w3 ho3 hb3 hg3)
  simp only [Nat.zero_add, List.nil_append] at ho3
  obtain ⟨g3, rfl, hg3b⟩ : ∃ g, A3 = some ⟨g, 0, none⟩ ∧ wm.heap.size ≤ g := by
    rcases ho3.2 with ⟨h1, h2⟩ | ⟨g, cap, cur, hv, hg, _⟩
    · omega
    · injection hv with hv; exact ⟨g, hv, hg⟩
  have hb4 : Below wm.heap.size wm w3 := Below.trans ((Grows.refl wm).alloc (.cells #[] 5)) hb3
  obtain ⟨x, Hx⟩ : ∃ x, Hid (bs.getD k 0 = x) := ⟨_, lib_hid rfl⟩
  obtain ⟨z, Hzz, hxz⟩ : ∃ z : UInt8, Hid (x ^^^ y = z) ∧ bits .xor .u8 (x.toNat : Int) (y.toNat : Int) = (z.toNat : Int) := ⟨_, lib_hid rfl, u8_xor x y⟩
  have c1 : w3.cell? ⟨g3, k, none⟩ = some (b8 x) := by
    rw [ho3.cellAt k (by omega), List.getElem?_map, ← Hx.out]
    simp [List.getD, hlen.out, hkl]
  have f1 : w3.frozen? ⟨g3, k, none⟩ = false := ho3.frozenAt k
  obtain ⟨cs, Hcs⟩ : ∃ cs, Hid (bs.set k z = cs) := ⟨_, lib_hid rfl⟩
  have ho5 := (ho3.stored k (b8 z)).1
  rw [← List.map_set, Hcs.out] at ho5
  have HO5 := lib_hid ho5
  have hg5 : Below wm.heap.size wm (w3.setCell ⟨g3, k, none⟩ (b8 z)) := hb4.setCell (p := ⟨g3, k, none⟩) hg3b _
  have hki : (k : Int) < (l : Int) := by omega
  clear ho3 ho5 hb3 hg3 HH hb4
  go_upto_region 7 with fail
  obtain ⟨W5, HW5⟩ : ∃ W : World, Hid (W = w3.setCell ⟨g3, k, none⟩ (b8 z)) := ⟨_, lib_hid rfl⟩
  rw [show (Value.int IntKind.u8 (z.toNat : Int)) = b8 z from rfl, ← HW5.out]
  rw [← HW5.out] at hg5
  have HC5 : Hid (SB W5 (some ⟨g3, 0, none⟩) l c3 cs) := by have := HO5.out; rw [← HW5.out] at this; exact SB.own this
  have HS5 := lib_hid (HSm.out.grows hg5)
  have HZ5 := lib_hid (HZ2.out.grows hg5)
  have hgw5 : Grows w W5 := hgw.trans hg5
  clear c1 f1 HO5 hg5 hgw HSm HZ2 hxz hcap hsm hsm2 hg3b
  have HFk : Hid (∀ W, Grows W5 W → Row W (some ⟨W0.heap.size, 0, none⟩) 32 32 (key.map b8)) := fun W hW => by
    have := (HZ5.out.grows hW).row (o := 0) (n := 32) (c := 32) (by omega) (by rw [Hz.out]; simp [Hkl.out, Hnl.out]) (by unfold maxLen; omega)
    rw [Hz.out] at this
    simpa [List.take_append, Hkl.out] using this
  have HFn : Hid (∀ W, Grows W5 W → Row W (some ⟨W0.heap.size, 32, none⟩) 12 12 (nonce.map b8)) := fun W hW => by
    have := (HZ5.out.grows hW).row (o := 32) (n := 12) (c := 12) (by omega) (by rw [Hz.out]; simp [Hkl.out, Hnl.out]) (by unfold maxLen; omega)
    rw [Hz.out] at this
    simpa [List.take_append, List.drop_append, Hkl.out, Hnl.out] using this
  have HFc : Hid (∀ W, Grows W5 W → W.cell? ⟨W0.heap.size, 44, none⟩ = some (b32 ctr)) := fun W hW => by
    rw [(HZ5.out.grows hW).cell, Hz.out]
    simp [List.getElem?_append_right, Hkl.out, Hnl.out]
  obtain ⟨xs, Hxs, Hxl⟩ : ∃ v, Hid (cryptF key nonce ctr bs = v) ∧ Hid (v.length = l) := ⟨_, lib_hid rfl, by unfold Hid; rw [cryptF_len]; exact hlen.out⟩
  obtain ⟨ys, Hys, Hyl⟩ : ∃ v, Hid (cryptF key nonce ctr cs = v) ∧ Hid (v.length = l) := ⟨_, lib_hid rfl, by unfold Hid; rw [cryptF_len, ← Hcs.out, List.length_set]; exact hlen.out⟩
  have Hxy : Hid (ys = xs.set k (xs.getD k 0 ^^^ y)) := by
    unfold Hid
    rw [← Hys.out, ← Hcs.out, ← Hzz.out, ← Hx.out, crypt_local key nonce ctr bs k y (by rw [hlen.out]; exact hkl), Hxs.out]
  have Hc1 : Hid (∀ W, SB W A l c bs → Calls Try.prog 15 #[.agg (key.map b8).toArray, .agg (nonce.map b8).toArray, b32 ctr, .slice A l c] W (NewB 5 W xs)) := fun W h => by rw [← Hxs.out]; exact crypt_any key nonce ctr A l c bs Hkl.out Hnl.out W h (by omega)
  have Hc2 : Hid (∀ A' c' W, SB W A' l c' cs → Calls Try.prog 15 #[.agg (key.map b8).toArray, .agg (nonce.map b8).toArray, b32 ctr, .slice A' l c'] W (NewB 5 W ys)) := fun A' c' W h => by rw [← Hys.out]; exact crypt_any key nonce ctr A' l c' cs Hkl.out Hnl.out W h (by omega)
  try simp only [Nat.zero_add]
  apply wp_region_mono 18 ((.is _, []) :: (.is (.agg (key.map b8).toArray), []) :: (.is _, []) :: (.is (.agg (nonce.map b8).toArray), []) :: (.is _, []) :: (.is _, []) :: (.is _, []) :: (.pr (fun v W => ∃ A n c, v = .slice A n c ∧ SB W A n c (xs)), []) :: (.is _, []) :: (.is (.agg (key.map b8).toArray), []) :: (.is _, []) :: (.is (.agg (nonce.map b8).toArray), []) :: (.is _, []) :: (.is _, []) :: (.is _, []) :: (.pr (fun v W => ∃ A n c, v = .slice A n c ∧ SB W A n c (ys)), []) :: (.pr (fun v W => ∃ A n c, v = .slice A n c ∧ SB W A n c (xs)), [7]) :: (.pr (fun v W => ∃ A n c, v = .slice A n c ∧ SB W A n c (ys)), [15]) :: []) (by kernel_rfl) (by kernel_rfl)
  apply Mono.is0
  · kernel_rfl
  · intro W hW
    go_wp2
    refine ⟨rfl, rfl, Grows.refl _, ?_⟩
    unfold Oper.valAt
    go_simp
    rfl
  intro k1 a1 hk1 ha1
  simp only [Nat.reduceAdd] at hk1
  simp only [Act.put, List.setIfInBounds_toArray, List.set_cons_succ, List.set_cons_zero] at ha1
  subst hk1 ha1
  apply Mono.is0
  · kernel_rfl
  · intro W hW 
    go_wp2_with (refine wpList_load_part (by kernel_rfl) _ _ rfl ⟨W0.heap.size, 0, none⟩ rfl 32 32 (key.map b8) _ (HFk.out W hW) Try.underlying22 rfl Try.size32 ?_)
    exact ⟨rfl, rfl, Grows.refl _, rfl⟩
  intro k1 a1 hk1 ha1
  simp only [Nat.reduceAdd] at hk1
  simp only [Act.put, List.setIfInBounds_toArray, List.set_cons_succ, List.set_cons_zero] at ha1
  subst hk1 ha1
  apply Mono.is0
  · kernel_rfl
  · intro W hW
    go_wp2
    refine ⟨rfl, rfl, Grows.refl _, ?_⟩
    unfold Oper.valAt
    go_simp
    rfl
  intro k1 a1 hk1 ha1
  simp only [Nat.reduceAdd] at hk1
  simp only [Act.put, List.setIfInBounds_toArray, List.set_cons_succ, List.set_cons_zero] at ha1
  subst hk1 ha1
  apply Mono.is0
  · kernel_rfl
  · intro W hW 
    go_wp2_with (refine wpList_load_part (by kernel_rfl) _ _ rfl ⟨W0.heap.size, 32, none⟩ rfl 12 12 (nonce.map b8) _ (HFn.out W hW) Try.underlying23 rfl Try.size12 ?_)
    exact ⟨rfl, rfl, Grows.refl _, rfl⟩
  intro k1 a1 hk1 ha1
  simp only [Nat.reduceAdd] at hk1
  simp only [Act.put, List.setIfInBounds_toArray, List.set_cons_succ, List.set_cons_zero] at ha1
  subst hk1 ha1
  apply Mono.is0
  · kernel_rfl
  · intro W hW
    go_wp2
    refine ⟨rfl, rfl, Grows.refl _, ?_⟩
    unfold Oper.valAt
    go_simp
    rfl
  intro k1 a1 hk1 ha1
  simp only [Nat.reduceAdd] at hk1
  simp only [Act.put, List.setIfInBounds_toArray, List.set_cons_succ, List.set_cons_zero] at ha1
  subst hk1 ha1
  apply Mono.is0
  · kernel_rfl
  · intro W hW
    have hcc := HFc.out W hW
    go_wp2
    refine ⟨rfl, rfl, Grows.refl _, ?_⟩
    unfold Oper.valAt
    go_simp
    rfl
  intro k1 a1 hk1 ha1
  simp only [Nat.reduceAdd] at hk1
  simp only [Act.put, List.setIfInBounds_toArray, List.set_cons_succ, List.set_cons_zero] at ha1
  subst hk1 ha1
  apply Mono.is0
  · kernel_rfl
  · intro W hW
    go_wp2
    refine ⟨rfl, rfl, Grows.refl _, ?_⟩
    unfold Oper.valAt
    go_simp
    rfl
  intro k1 a1 hk1 ha1
  simp only [Nat.reduceAdd] at hk1
  simp only [Act.put, List.setIfInBounds_toArray, List.set_cons_succ, List.set_cons_zero] at ha1
  subst hk1 ha1
  apply Mono.pr0
  · kernel_rfl
  · exact fun v W W' hW ⟨A, n, c, h1, h2⟩ => ⟨A, n, c, h1, h2.grows hW⟩
  · intro W hW 
    go_wp2_with fail
    refine (Hc1.out W (HS5.out.grows hW)).mono ?_
    rintro e w1 ⟨A1, n1, c1, hn1, rfl, hg1, ho1⟩
    go_wp2
    exact ⟨rfl, rfl, hg1, A1, n1, c1, rfl, SB.own ho1⟩
  intro v7
  intro k1 a1 hk1 ha1
  simp only [Nat.reduceAdd] at hk1
  simp only [Act.put, List.setIfInBounds_toArray, List.set_cons_succ, List.set_cons_zero] at ha1
  subst hk1 ha1
  apply Mono.is0
  · kernel_rfl
  · intro W hW
    go_wp2
    refine ⟨rfl, rfl, Grows.refl _, ?_⟩
    unfold Oper.valAt
    go_simp
    rfl
  intro k1 a1 hk1 ha1
  simp only [Nat.reduceAdd] at hk1
  simp only [Act.put, List.setIfInBounds_toArray, List.set_cons_succ, List.set_cons_zero] at ha1
  subst hk1 ha1
  apply Mono.is0
  · kernel_rfl
  · intro W hW 
    go_wp2_with (refine wpList_load_part (by kernel_rfl) _ _ rfl ⟨W0.heap.size, 0, none⟩ rfl 32 32 (key.map b8) _ (HFk.out W hW) Try.underlying22 rfl Try.size32 ?_)
    exact ⟨rfl, rfl, Grows.refl _, rfl⟩
  intro k1 a1 hk1 ha1
  simp only [Nat.reduceAdd] at hk1
  simp only [Act.put, List.setIfInBounds_toArray, List.set_cons_succ, List.set_cons_zero] at ha1
  subst hk1 ha1
  apply Mono.is0
  · kernel_rfl
  · intro W hW
    go_wp2
    refine ⟨rfl, rfl, Grows.refl _, ?_⟩
    unfold Oper.valAt
    go_simp
    rfl
  intro k1 a1 hk1 ha1
  simp only [Nat.reduceAdd] at hk1
  simp only [Act.put, List.setIfInBounds_toArray, List.set_cons_succ, List.set_cons_zero] at ha1
  subst hk1 ha1
  apply Mono.is0
  · kernel_rfl
  · intro W hW 
    go_wp2_with (refine wpList_load_part (by kernel_rfl) _ _ rfl ⟨W0.heap.size, 32, none⟩ rfl 12 12 (nonce.map b8) _ (HFn.out W hW) Try.underlying23 rfl Try.size12 ?_)
    exact ⟨rfl, rfl, Grows.refl _, rfl⟩
  intro k1 a1 hk1 ha1
  simp only [Nat.reduceAdd] at hk1
  simp only [Act.put, List.setIfInBounds_toArray, List.set_cons_succ, List.set_cons_zero] at ha1
  subst hk1 ha1
  apply Mono.is0
  · kernel_rfl
  · intro W hW
    go_wp2
    refine ⟨rfl, rfl, Grows.refl _, ?_⟩
    unfold Oper.valAt
    go_simp
    rfl
  intro k1 a1 hk1 ha1
  simp only [Nat.reduceAdd] at hk1
  simp only [Act.put, List.setIfInBounds_toArray, List.set_cons_succ, List.set_cons_zero] at ha1
  subst hk1 ha1
  apply Mono.is0
  · kernel_rfl
  · intro W hW
    have hcc := HFc.out W hW
    go_wp2
    refine ⟨rfl, rfl, Grows.refl _, ?_⟩
    unfold Oper.valAt
    go_simp
    rfl
  intro k1 a1 hk1 ha1
  simp only [Nat.reduceAdd] at hk1
  simp only [Act.put, List.setIfInBounds_toArray, List.set_cons_succ, List.set_cons_zero] at ha1
  subst hk1 ha1
  apply Mono.is0
  · kernel_rfl
  · intro W hW
    go_wp2
    refine ⟨rfl, rfl, Grows.refl _, ?_⟩
    unfold Oper.valAt
    go_simp
    rfl
  intro k1 a1 hk1 ha1
  simp only [Nat.reduceAdd] at hk1
  simp only [Act.put, List.setIfInBounds_toArray, List.set_cons_succ, List.set_cons_zero] at ha1
  subst hk1 ha1
  apply Mono.pr0
  · kernel_rfl
  · exact fun v W W' hW ⟨A, n, c, h1, h2⟩ => ⟨A, n, c, h1, h2.grows hW⟩
  · intro W hW 
    go_wp2_with fail
    refine (Hc2.out _ _ W (HC5.out.grows hW)).mono ?_
    rintro e w1 ⟨A1, n1, c1, hn1, rfl, hg1, ho1⟩
    go_wp2
    exact ⟨rfl, rfl, hg1, A1, n1, c1, rfl, SB.own ho1⟩
  intro v15
  intro k1 a1 hk1 ha1
  simp only [Nat.reduceAdd] at hk1
  simp only [Act.put, List.setIfInBounds_toArray, List.set_cons_succ, List.set_cons_zero] at ha1
  subst hk1 ha1
  apply Mono.pr1
  · kernel_rfl
  · exact fun v W W' hW ⟨A, n, c, h1, h2⟩ => ⟨A, n, c, h1, h2.grows hW⟩
  · intro W hW f0
    obtain ⟨A1, n1, c1, rfl, hs⟩ := f0
    go_wp2
    exact ⟨rfl, rfl, Grows.refl _, A1, n1, c1, rfl, hs⟩
  intro v16
  intro k1 a1 hk1 ha1
  simp only [Nat.reduceAdd] at hk1
  simp only [Act.put, List.setIfInBounds_toArray, List.set_cons_succ, List.set_cons_zero] at ha1
  subst hk1 ha1
  apply Mono.pr1
  · kernel_rfl
  · exact fun v W W' hW ⟨A, n, c, h1, h2⟩ => ⟨A, n, c, h1, h2.grows hW⟩
  · intro W hW f0
    obtain ⟨A1, n1, c1, rfl, hs⟩ := f0
    go_wp2
    exact ⟨rfl, rfl, Grows.refl _, A1, n1, c1, rfl, hs⟩
  intro v17
  intro k1 a1 hk1 ha1
  simp only [Nat.reduceAdd] at hk1
  simp only [Act.put, List.setIfInBounds_toArray, List.set_cons_succ, List.set_cons_zero] at ha1
  subst hk1 ha1
  refine Mono.done ?_
  intro wn hgn
  simp only [allF, List.drop_succ_cons, List.drop_nil]
  intro g17 g16 g15 g7
  obtain ⟨A1, n1, c1, rfl, hs1⟩ := g16
  obtain ⟨A2, n2, c2, rfl, hs2⟩ := g17
  obtain rfl : n1 = l := by rw [← hs1.len]; exact Hxl.out
  obtain rfl : n2 = n1 := by rw [← hs2.len]; exact Hyl.out
  clear g7 g15
  obtain ⟨b1, o1, rfl, _, hx1⟩ := hs1.at (by omega)
  obtain ⟨b2, o2, rfl, _, hy1⟩ := hs2.at (by omega)
  have HX1 := lib_hid hx1
  have HY1 := lib_hid hy1
  have hgw6 := hgw5.trans hgn
  clear hs1 hs2 hx1 hy1
  go_upto_region 10 with fail
  go_wp2_with fail
  go_loop [11, 12] (fun i _ => ∃ j : Nat, j ≤ n2 ∧ i = .int .i64 (j : Int)) (fun i _ => n2 - (intOf i).toNat)
  case atStart => exact ⟨0, by omega, rfl⟩
  case round =>
    obtain ⟨j, hj, rfl⟩ := hrel
    by_cases hlt : j < n2
    · have hji : (j : Int) < (n2 : Int) := by omega
      obtain ⟨xi, Hxi, hcx⟩ : ∃ v : UInt8, Hid (xs.getD j 0 = v) ∧ wn.cell? ⟨b1, o1 + j, none⟩ = some (.int .u8 (v.toNat : Int)) := ⟨xs[j]'(by rw [Hxl.out]; exact hlt), by unfold Hid; simp [List.getD, Hxl.out, hlt], HX1.out j (by rw [Hxl.out]; exact hlt)⟩
      obtain ⟨yi, Hyi, hcy⟩ : ∃ v : UInt8, Hid (ys.getD j 0 = v) ∧ wn.cell? ⟨b2, o2 + j, none⟩ = some (.int .u8 (v.toNat : Int)) := ⟨ys[j]'(by rw [Hyl.out]; exact hlt), by unfold Hid; simp [List.getD, Hyl.out, hlt], HY1.out j (by rw [Hyl.out]; exact hlt)⟩
      by_cases hjk : j = k
      · subst hjk
        have hyx : bits .xor .u8 (xi.toNat : Int) (y.toNat : Int) = (yi.toNat : Int) := by
          rw [u8_xor, ← Hyi.out, Hxy.out, ← Hxi.out]
          simp [List.getD, List.getElem?_set, Hxl.out, hkl]
        go_wp2
        go_round
        case rel => exact ⟨j + 1, by omega, by go_num⟩
        case measure => simp [intOf]; omega
      · have hjki : ¬ (j : Int) = (k : Int) := by omega
        obtain rfl : yi = xi := by
          rw [← Hyi.out, Hxy.out, ← Hxi.out]
          simp [List.getD, List.getElem?_set, Ne.symm hjk]
        clear hjk
        go_wp2
        go_round
        case rel => exact ⟨j + 1, by omega, by go_num⟩
        case measure => simp [intOf]; omega
    · have hji : ¬ (j : Int) < (n2 : Int) := by omega
      go_wp2_with fail
      refine (awake4_any wn).mono ?_
      rintro e w1 ⟨rfl, hg1⟩
      go_wp2
      go_ret
      exact ⟨rfl, hgw6.trans hg1⟩

end Go.Proofs.Ytaanncgkekmgoaa
