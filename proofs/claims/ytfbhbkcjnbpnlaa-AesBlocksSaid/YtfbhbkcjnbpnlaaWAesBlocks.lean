/- It is proved here that the law AesBlocks, called with any arrays, answers true and leaves what was there alone. No condition. -/
import Derived.Test.YtfbhbkcjnbpnlaaAesC
namespace Go.Proofs.Ytfbhbkcjnbpnlaa.HAesBlocks
set_option linter.unusedVariables false
set_option linter.unusedSimpArgs false
open Go.RowKit Go.Proofs.YtfbhbkcjnbpnlaaW.PrintWords Go.Proofs.YtfbhbkcjnbpnlaaW.PrintLast Go.Proofs.YtfbhbkcjnbpnlaaW.PrintMore
open Gf Gfi Poly AesF Aes
attribute [local go_sem ↓] ld22 st22 ld23 st23 ld27 st27 ld31 st31 bd23
set_option maxRecDepth 100000 in
set_option maxHeartbeats 4000000 in
theorem law (key b : Nat → B) (w : World) : Calls Try.prog 3 #[.agg (cB 32 key), .agg (cB 16 b)] w fun e w' => e = .returned (.bool true) ∧ Below w.heap.size w w' := by
  obtain ⟨kc, E, D, hC, hS, hx, hy⟩ := open_key key
  have HC := Lib.hid hC
  have HS := Lib.hid hS
  have HX := Lib.hid hx
  have HY := Lib.hid hy
  clear hC hS hx hy
  have HP := Lib.hid ((Blk.Is.new w (cB 32 key) 22).alloc (.cells (cB 16 b) 23))
  have e1 : (w.alloc (.cells (cB 32 key) 22)).heap.size = w.heap.size + 1 := by simp
  have HQ := Lib.hid (Blk.Is.new (w.alloc (.cells (cB 32 key) 22)) (cB 16 b) 23)
  rw [e1] at HQ
  have HB := Lib.hid (((Below.refl _ w).alloc (by exact Nat.le_refl _) (.cells (cB 32 key) 22)).alloc (by omega) (.cells (cB 16 b) 23))
  clear e1
  have HG : Hid (w.heap.size ≤ ((w.alloc (.cells (cB 32 key) 22)).alloc (.cells (cB 16 b) 23)).heap.size) := HB.out.size
  have hzk := zeroKey0
  have hzr := zeroRef0
  have lP := ldk_is HP.out
  go_enter Try.func3, Try.ntmps3
  go_wp2_with fail
  clear lP
  generalize ((w.alloc (.cells (cB 32 key) 22)).alloc (.cells (cB 16 b) 23)) = w0 at *
  generalize hg : w.heap.size = g at *
  have HGE := Lib.hid hg
  clear hg
  refine (HX.out w0).mono ?_
  rintro e w1 ⟨rfl, hB⟩
  replace HP := Lib.hid (HP.out.below hB HP.out.lt)
  replace HQ := Lib.hid (HQ.out.below hB HQ.out.lt)
  replace HB := Lib.hid (HB.out.trans (hB.mono HG.out))
  replace HG : Hid (g ≤ w1.heap.size) := Nat.le_trans HG.out hB.size
  clear hB
  have hst := st27_new w1 kc
  have HK := Lib.hid (Blk.Is.new w1 (cB 752 (kc)) 27)
  replace HP := Lib.hid (HP.out.alloc (.cells (cB 752 (kc)) 27))
  replace HQ := Lib.hid (HQ.out.alloc (.cells (cB 752 (kc)) 27))
  replace HB := Lib.hid (HB.out.alloc HG.out (.cells (cB 752 (kc)) 27))
  replace HG : Hid (g ≤ (w1.alloc (.cells (cB 752 (kc)) 27)).heap.size) := Nat.le_trans HG.out (by simp)
  have lP := ldk_is HP.out
  go_wp2_with fail
  clear hst lP
  generalize w1.alloc (.cells (cB 752 (kc)) 27) = w2 at *
  generalize w1.heap.size = gk at *
  refine (HY.out w2).mono ?_
  rintro e w3 ⟨rfl, hB⟩
  replace HP := Lib.hid (HP.out.below hB HP.out.lt)
  replace HQ := Lib.hid (HQ.out.below hB HQ.out.lt)
  replace HK := Lib.hid (HK.out.below hB HK.out.lt)
  replace HB := Lib.hid (HB.out.trans (hB.mono HG.out))
  replace HG : Hid (g ≤ w3.heap.size) := Nat.le_trans HG.out hB.size
  clear hB
  have hst := st31_new w3 kc
  have HR := Lib.hid (Blk.Is.new w3 (cB 752 (kc)) 31)
  replace HP := Lib.hid (HP.out.alloc (.cells (cB 752 (kc)) 31))
  replace HQ := Lib.hid (HQ.out.alloc (.cells (cB 752 (kc)) 31))
  replace HK := Lib.hid (HK.out.alloc (.cells (cB 752 (kc)) 31))
  replace HB := Lib.hid (HB.out.alloc HG.out (.cells (cB 752 (kc)) 31))
  replace HG : Hid (g ≤ (w3.alloc (.cells (cB 752 (kc)) 31)).heap.size) := Nat.le_trans HG.out (by simp)
  go_wp2_with fail
  clear hst hzk hzr
  generalize w3.alloc (.cells (cB 752 (kc)) 31) = w4 at *
  generalize w3.heap.size = gr at *
  have heq : ∀ f : Nat → B, eq16 f f = true := fun f => eq16_true (Eq16.rfl' f)
  clear HP
  replace HG := trivial
  refine start_ (n := 20) (S := fun w' => (Blk.ld 27 (.pointer (some ⟨gk, 0, none⟩))).run Try.prog w' = .ok (.agg (cB 752 (kc))) w' ∧ (Blk.ld 31 (.pointer (some ⟨gr, 0, none⟩))).run Try.prog w' = .ok (.agg (cB 752 (kc))) w' ∧ (Blk.ld 23 (.pointer (some ⟨g + 1, 0, none⟩))).run Try.prog w' = .ok (.agg (cB 16 (b))) w') (ds := []) #[false, false, false, false, false, false, false, false, false, false, false, false, false, false, false, false, false, false, false, false] (by kernel_rfl) rfl rfl ⟨(ld_is HK.out.drew), (ldr_is HR.out.drew), (ldb_is HQ.out.drew)⟩ (fun hHeld => ?_)
  have HKv0 := Lib.hid HK.out.drew
  have HRv0 := Lib.hid HR.out.drew
  have HQv0 := Lib.hid HQ.out.drew
  have HBv0 := Lib.hid HB.out.drew
  clear HK HR HQ HB
  generalize w4.drew = v0 at *
  refine take_ (i := 0) (N := some 11) (v := ?_) (a' := ?_) #[true, false, false, false, false, false, false, false, false, false, false, false, false, false, false, false, false, false, false, false] rfl rfl (by kernel_rfl) (fun _ _ _ h => h) (Or.inl ⟨by rfl, ?_⟩) hHeld ?_ ?_
  rotate_left
  · rintro w' ⟨s0, s1, s2⟩
    go_simp
    with_reducible rfl
  rotate_left
  · simp only [Act.put, List.setIfInBounds_toArray, List.set_cons_zero, List.set_cons_succ, i64_w, i32_w]
    rfl
  refine take_ (i := 1) (N := some 12) (v := ?_) (a' := ?_) #[true, true, false, false, false, false, false, false, false, false, false, false, false, false, false, false, false, false, false, false] rfl rfl (by kernel_rfl) (fun _ _ _ h => h) (Or.inl ⟨by rfl, ?_⟩) hHeld ?_ ?_
  rotate_left
  · rintro w' ⟨s0, s1, s2⟩
    go_simp
    with_reducible rfl
  rotate_left
  · simp only [Act.put, List.setIfInBounds_toArray, List.set_cons_zero, List.set_cons_succ, i64_w, i32_w]
    rfl
  refine take_ (i := 3) (N := some 14) (v := ?_) (a' := ?_) #[true, true, false, true, false, false, false, false, false, false, false, false, false, false, false, false, false, false, false, false] rfl rfl (by kernel_rfl) (fun _ _ _ h => h) (Or.inl ⟨by rfl, ?_⟩) hHeld ?_ ?_
  rotate_left
  · rintro w' ⟨s0, s1, s2⟩
    go_simp
    with_reducible rfl
  rotate_left
  · simp only [Act.put, List.setIfInBounds_toArray, List.set_cons_zero, List.set_cons_succ, i64_w, i32_w]
    rfl
  refine take_ (i := 4) (N := some 15) (v := ?_) (a' := ?_) #[true, true, false, true, true, false, false, false, false, false, false, false, false, false, false, false, false, false, false, false] rfl rfl (by kernel_rfl) (fun _ _ _ h => h) (Or.inl ⟨by rfl, ?_⟩) hHeld ?_ ?_
  rotate_left
  · rintro w' ⟨s0, s1, s2⟩
    go_simp
    with_reducible rfl
  rotate_left
  · simp only [Act.put, List.setIfInBounds_toArray, List.set_cons_zero, List.set_cons_succ, i64_w, i32_w]
    rfl
  refine one_ (i := 2) (N := some 13) #[true, true, true, true, true, false, false, false, false, false, false, false, false, false, false, false, false, false, false, false] rfl rfl (by kernel_rfl) (by decide) (fun K hK => ?_)
  refine goes_ Try.func10 (by kernel_rfl) rfl #[.agg (cB 752 (kc)), .agg (cB 16 (b))] (by rfl) rfl rfl (by simp only [List.map_toArray, List.map_cons, List.map_nil]; rfl) ?_
  with_reducible refine (HC.out.block b v0).mono ?_
  rintro e v1 ⟨rfl, hB⟩
  refine ⟨_, rfl, ?_⟩
  have HKv1 := Lib.hid (HKv0.out.below hB HKv0.out.lt)
  have HRv1 := Lib.hid (HRv0.out.below hB HRv0.out.lt)
  have HQv1 := Lib.hid (HQv0.out.below hB HQv0.out.lt)
  have HBv1 := Lib.hid (HBv0.out.trans (hB.mono (by rw [← HGE.out]; exact HBv0.out.size)))
  clear hB HBv0 HKv0 HRv0 HQv0
  refine hK.out _ _ ⟨(ld_is HKv1.out), (ldr_is HRv1.out), (ldb_is HQv1.out)⟩ (fun hHeld => ?_)
  clear hK K
  refine norm_ (a' := ?_) ?_ ?_
  rotate_left
  · show Act.put _ (some 13) _ = _
    simp only [Act.put, List.setIfInBounds_toArray, List.set_cons_zero, List.set_cons_succ, i64_w, i32_w]
    rfl
  refine one_ (i := 5) (N := some 16) #[true, true, true, true, true, true, false, false, false, false, false, false, false, false, false, false, false, false, false, false] rfl rfl (by kernel_rfl) (by decide) (fun K hK => ?_)
  refine goes_ Try.func11 (by kernel_rfl) rfl #[.agg (cB 752 (kc)), .agg (cB 16 (b))] (by rfl) rfl rfl (by simp only [List.map_toArray, List.map_cons, List.map_nil]; rfl) ?_
  with_reducible refine (HS.out.block b v1).mono ?_
  rintro e v2 ⟨rfl, hB⟩
  refine ⟨_, rfl, ?_⟩
  have HKv2 := Lib.hid (HKv1.out.below hB HKv1.out.lt)
  have HRv2 := Lib.hid (HRv1.out.below hB HRv1.out.lt)
  have HQv2 := Lib.hid (HQv1.out.below hB HQv1.out.lt)
  have HBv2 := Lib.hid (HBv1.out.trans (hB.mono (by rw [← HGE.out]; exact HBv1.out.size)))
  clear hB HBv1 HKv1 HRv1 HQv1
  refine hK.out _ _ ⟨(ld_is HKv2.out), (ldr_is HRv2.out), (ldb_is HQv2.out)⟩ (fun hHeld => ?_)
  clear hK K
  refine norm_ (a' := ?_) ?_ ?_
  rotate_left
  · show Act.put _ (some 16) _ = _
    simp only [Act.put, List.setIfInBounds_toArray, List.set_cons_zero, List.set_cons_succ, i64_w, i32_w]
    rfl
  refine pure_ (i := 6) (N := some 17) (v := ?_) (a' := ?_) #[true, true, true, true, true, true, true, false, false, false, false, false, false, false, false, false, false, false, false, false] rfl rfl (by kernel_rfl) (fun _ _ _ h => h) (Or.inl ⟨by rfl, ?_⟩) ?_ ?_
  rotate_left
  · intro w'
    refine (eq_op (by rfl) (by rfl) (by rfl) _).trans ?_
    rw [heq]
  rotate_left
  · simp only [Act.put, List.setIfInBounds_toArray, List.set_cons_zero, List.set_cons_succ, i64_w, i32_w]
    rfl
  refine pure_ (i := 7) (N := some 18) (v := ?_) (a' := ?_) #[true, true, true, true, true, true, true, true, false, false, false, false, false, false, false, false, false, false, false, false] rfl rfl (by kernel_rfl) (fun _ _ _ h => h) (Or.inl ⟨by rfl, ?_⟩) ?_ ?_
  rotate_left
  · intro w'
    go_simp
    with_reducible rfl
  rotate_left
  · simp only [Act.put, List.setIfInBounds_toArray, List.set_cons_zero, List.set_cons_succ, i64_w, i32_w]
    rfl
  refine take_ (i := 8) (N := some 19) (v := ?_) (a' := ?_) #[true, true, true, true, true, true, true, true, true, false, false, false, false, false, false, false, false, false, false, false] rfl rfl (by kernel_rfl) (fun _ _ _ h => h) (Or.inl ⟨by rfl, ?_⟩) hHeld ?_ ?_
  rotate_left
  · rintro w' ⟨s0, s1, s2⟩
    go_simp
    with_reducible rfl
  rotate_left
  · simp only [Act.put, List.setIfInBounds_toArray, List.set_cons_zero, List.set_cons_succ, i64_w, i32_w]
    rfl
  refine take_ (i := 9) (N := some 20) (v := ?_) (a' := ?_) #[true, true, true, true, true, true, true, true, true, true, false, false, false, false, false, false, false, false, false, false] rfl rfl (by kernel_rfl) (fun _ _ _ h => h) (Or.inl ⟨by rfl, ?_⟩) hHeld ?_ ?_
  rotate_left
  · rintro w' ⟨s0, s1, s2⟩
    go_simp
    with_reducible rfl
  rotate_left
  · simp only [Act.put, List.setIfInBounds_toArray, List.set_cons_zero, List.set_cons_succ, i64_w, i32_w]
    rfl
  refine take_ (i := 11) (N := some 22) (v := ?_) (a' := ?_) #[true, true, true, true, true, true, true, true, true, true, false, true, false, false, false, false, false, false, false, false] rfl rfl (by kernel_rfl) (fun _ _ _ h => h) (Or.inl ⟨by rfl, ?_⟩) hHeld ?_ ?_
  rotate_left
  · rintro w' ⟨s0, s1, s2⟩
    go_simp
    with_reducible rfl
  rotate_left
  · simp only [Act.put, List.setIfInBounds_toArray, List.set_cons_zero, List.set_cons_succ, i64_w, i32_w]
    rfl
  refine take_ (i := 12) (N := some 23) (v := ?_) (a' := ?_) #[true, true, true, true, true, true, true, true, true, true, false, true, true, false, false, false, false, false, false, false] rfl rfl (by kernel_rfl) (fun _ _ _ h => h) (Or.inl ⟨by rfl, ?_⟩) hHeld ?_ ?_
  rotate_left
  · rintro w' ⟨s0, s1, s2⟩
    go_simp
    with_reducible rfl
  rotate_left
  · simp only [Act.put, List.setIfInBounds_toArray, List.set_cons_zero, List.set_cons_succ, i64_w, i32_w]
    rfl
  refine one_ (i := 10) (N := some 21) #[true, true, true, true, true, true, true, true, true, true, true, true, true, false, false, false, false, false, false, false] rfl rfl (by kernel_rfl) (by decide) (fun K hK => ?_)
  refine goes_ Try.func12 (by kernel_rfl) rfl #[.agg (cB 752 (kc)), .agg (cB 16 (b))] (by rfl) rfl rfl (by simp only [List.map_toArray, List.map_cons, List.map_nil]; rfl) ?_
  with_reducible refine (HC.out.back b v2).mono ?_
  rintro e v3 ⟨rfl, hB⟩
  refine ⟨_, rfl, ?_⟩
  have HKv3 := Lib.hid (HKv2.out.below hB HKv2.out.lt)
  have HRv3 := Lib.hid (HRv2.out.below hB HRv2.out.lt)
  have HQv3 := Lib.hid (HQv2.out.below hB HQv2.out.lt)
  have HBv3 := Lib.hid (HBv2.out.trans (hB.mono (by rw [← HGE.out]; exact HBv2.out.size)))
  clear hB HBv2 HKv2 HRv2 HQv2
  refine hK.out _ _ ⟨(ld_is HKv3.out), (ldr_is HRv3.out), (ldb_is HQv3.out)⟩ (fun hHeld => ?_)
  clear hK K
  refine norm_ (a' := ?_) ?_ ?_
  rotate_left
  · show Act.put _ (some 21) _ = _
    simp only [Act.put, List.setIfInBounds_toArray, List.set_cons_zero, List.set_cons_succ, i64_w, i32_w]
    rfl
  refine one_ (i := 13) (N := some 24) #[true, true, true, true, true, true, true, true, true, true, true, true, true, true, false, false, false, false, false, false] rfl rfl (by kernel_rfl) (by decide) (fun K hK => ?_)
  refine goes_ Try.func13 (by kernel_rfl) rfl #[.agg (cB 752 (kc)), .agg (cB 16 (b))] (by rfl) rfl rfl (by simp only [List.map_toArray, List.map_cons, List.map_nil]; rfl) ?_
  with_reducible refine (HS.out.back b v3).mono ?_
  rintro e v4 ⟨rfl, hB⟩
  refine ⟨_, rfl, ?_⟩
  have HKv4 := Lib.hid (HKv3.out.below hB HKv3.out.lt)
  have HRv4 := Lib.hid (HRv3.out.below hB HRv3.out.lt)
  have HQv4 := Lib.hid (HQv3.out.below hB HQv3.out.lt)
  have HBv4 := Lib.hid (HBv3.out.trans (hB.mono (by rw [← HGE.out]; exact HBv3.out.size)))
  clear hB HBv3 HKv3 HRv3 HQv3
  refine hK.out _ _ ⟨(ld_is HKv4.out), (ldr_is HRv4.out), (ldb_is HQv4.out)⟩ (fun hHeld => ?_)
  clear hK K
  refine norm_ (a' := ?_) ?_ ?_
  rotate_left
  · show Act.put _ (some 24) _ = _
    simp only [Act.put, List.setIfInBounds_toArray, List.set_cons_zero, List.set_cons_succ, i64_w, i32_w]
    rfl
  refine pure_ (i := 14) (N := some 25) (v := ?_) (a' := ?_) #[true, true, true, true, true, true, true, true, true, true, true, true, true, true, true, false, false, false, false, false] rfl rfl (by kernel_rfl) (fun _ _ _ h => h) (Or.inl ⟨by rfl, ?_⟩) ?_ ?_
  rotate_left
  · intro w'
    refine (eq_op (by rfl) (by rfl) (by rfl) _).trans ?_
    rw [heq]
  rotate_left
  · simp only [Act.put, List.setIfInBounds_toArray, List.set_cons_zero, List.set_cons_succ, i64_w, i32_w]
    rfl
  refine pure_ (i := 15) (N := some 26) (v := ?_) (a' := ?_) #[true, true, true, true, true, true, true, true, true, true, true, true, true, true, true, true, false, false, false, false] rfl rfl (by kernel_rfl) (fun _ _ _ h => h) (Or.inl ⟨by rfl, ?_⟩) ?_ ?_
  rotate_left
  · intro w'
    go_simp
    with_reducible rfl
  rotate_left
  · simp only [Act.put, List.setIfInBounds_toArray, List.set_cons_zero, List.set_cons_succ, i64_w, i32_w]
    rfl
  refine pure_ (i := 16) (N := some 27) (v := ?_) (a' := ?_) #[true, true, true, true, true, true, true, true, true, true, true, true, true, true, true, true, true, false, false, false] rfl rfl (by kernel_rfl) (fun _ _ _ h => h) (Or.inl ⟨by rfl, ?_⟩) ?_ ?_
  rotate_left
  · intro w'
    go_simp
    with_reducible rfl
  rotate_left
  · simp only [Act.put, List.setIfInBounds_toArray, List.set_cons_zero, List.set_cons_succ, i64_w, i32_w]
    rfl
  refine one_ (i := 17) (N := some 28) #[true, true, true, true, true, true, true, true, true, true, true, true, true, true, true, true, true, true, false, false] rfl rfl (by kernel_rfl) (by decide) (fun K hK => ?_)
  refine goes_ Try.func14 (by kernel_rfl) rfl #[] (by rfl) rfl rfl (by simp only [List.map_toArray, List.map_nil]) ?_
  with_reducible refine (works v4).mono ?_
  rintro e v5 ⟨rfl, hB⟩
  refine ⟨_, rfl, ?_⟩
  have HKv5 := Lib.hid (HKv4.out.below hB HKv4.out.lt)
  have HRv5 := Lib.hid (HRv4.out.below hB HRv4.out.lt)
  have HQv5 := Lib.hid (HQv4.out.below hB HQv4.out.lt)
  have HBv5 := Lib.hid (HBv4.out.trans (hB.mono (by rw [← HGE.out]; exact HBv4.out.size)))
  clear hB HBv4 HKv4 HRv4 HQv4
  refine hK.out _ _ ⟨(ld_is HKv5.out), (ldr_is HRv5.out), (ldb_is HQv5.out)⟩ (fun hHeld => ?_)
  clear hK K
  refine norm_ (a' := ?_) ?_ ?_
  rotate_left
  · show Act.put _ (some 28) _ = _
    simp only [Act.put, List.setIfInBounds_toArray, List.set_cons_zero, List.set_cons_succ, i64_w, i32_w]
    rfl
  refine pure_ (i := 18) (N := some 29) (v := ?_) (a' := ?_) #[true, true, true, true, true, true, true, true, true, true, true, true, true, true, true, true, true, true, true, false] rfl rfl (by kernel_rfl) (fun _ _ _ h => h) (Or.inl ⟨by rfl, ?_⟩) ?_ ?_
  rotate_left
  · intro w'
    go_simp
    with_reducible rfl
  rotate_left
  · simp only [Act.put, List.setIfInBounds_toArray, List.set_cons_zero, List.set_cons_succ, i64_w, i32_w]
    rfl
  refine pure_ (i := 19) (N := some 4) (v := ?_) (a' := ?_) #[true, true, true, true, true, true, true, true, true, true, true, true, true, true, true, true, true, true, true, true] rfl rfl (by kernel_rfl) (fun _ _ _ h => h) (Or.inl ⟨by rfl, ?_⟩) ?_ ?_
  rotate_left
  · intro w'
    go_simp
    with_reducible rfl
  rotate_left
  · simp only [Act.put, List.setIfInBounds_toArray, List.set_cons_zero, List.set_cons_succ, i64_w, i32_w]
    rfl
  refine done_ (by kernel_rfl) ?_
  go_wp2_with fail
  go_ret
  exact ⟨rfl, by rw [HGE.out]; exact HBv5.out⟩
end Go.Proofs.Ytfbhbkcjnbpnlaa.HAesBlocks
