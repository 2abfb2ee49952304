/- It is proved here that the law AesTurns, called with any arrays, answers true and leaves what was there alone. No condition. -/
import Derived.Test.YtfbhbkcjnbpnlaaAesC
namespace Go.Proofs.Ytfbhbkcjnbpnlaa.HAesTurns
set_option linter.unusedVariables false
set_option linter.unusedSimpArgs false
open Go.RowKit Go.Proofs.YtfbhbkcjnbpnlaaW.PrintWords Go.Proofs.YtfbhbkcjnbpnlaaW.PrintLast Go.Proofs.YtfbhbkcjnbpnlaaW.PrintMore
open Gf Gfi Poly AesF Aes
attribute [local go_sem ↓] ld22 st22 ld23 st23 ld27 st27 ld31 st31 bd23
set_option maxRecDepth 100000 in
set_option maxHeartbeats 4000000 in
theorem law (one two b : Nat → B) (w : World) : Calls Try.prog 6 #[.agg (cB 32 one), .agg (cB 32 two), .agg (cB 16 b)] w fun e w' => e = .returned (.bool true) ∧ Below w.heap.size w w' := by
  obtain ⟨k1, E1, D1, hC1, _, hx1, _⟩ := open_key one
  obtain ⟨k2, E2, D2, hC2, _, hx2, _⟩ := open_key two
  have HC1 := Lib.hid hC1
  have HX1 := Lib.hid hx1
  have HC2 := Lib.hid hC2
  have HX2 := Lib.hid hx2
  clear hC1 hC2 hx1 hx2
  have HP := Lib.hid (((Blk.Is.new w (cB 32 one) 22).alloc (.cells (cB 32 two) 22)).alloc (.cells (cB 16 b) 23))
  have e1 : (w.alloc (.cells (cB 32 one) 22)).heap.size = w.heap.size + 1 := by simp
  have HU := Lib.hid ((Blk.Is.new (w.alloc (.cells (cB 32 one) 22)) (cB 32 two) 22).alloc (.cells (cB 16 b) 23))
  rw [e1] at HU
  have e2 : ((w.alloc (.cells (cB 32 one) 22)).alloc (.cells (cB 32 two) 22)).heap.size = w.heap.size + 1 + 1 := by simp
  have HQ := Lib.hid (Blk.Is.new ((w.alloc (.cells (cB 32 one) 22)).alloc (.cells (cB 32 two) 22)) (cB 16 b) 23)
  rw [e2] at HQ
  have HB := Lib.hid ((((Below.refl _ w).alloc (by exact Nat.le_refl _) (.cells (cB 32 one) 22)).alloc (by omega) (.cells (cB 32 two) 22)).alloc (by omega) (.cells (cB 16 b) 23))
  clear e1 e2
  have HG : Hid (w.heap.size ≤ (((w.alloc (.cells (cB 32 one) 22)).alloc (.cells (cB 32 two) 22)).alloc (.cells (cB 16 b) 23)).heap.size) := HB.out.size
  have hzk := zeroKey0
  have hzr := zeroRef0
  have lP := ldk_is HP.out
  go_enter Try.func6, Try.ntmps6
  go_wp2_with fail
  clear lP
  generalize (((w.alloc (.cells (cB 32 one) 22)).alloc (.cells (cB 32 two) 22)).alloc (.cells (cB 16 b) 23)) = w0 at *
  generalize hg : w.heap.size = g at *
  have HGE := Lib.hid hg
  clear hg
  refine (HX1.out w0).mono ?_
  rintro e w1 ⟨rfl, hB⟩
  replace HP := Lib.hid (HP.out.below hB HP.out.lt)
  replace HU := Lib.hid (HU.out.below hB HU.out.lt)
  replace HQ := Lib.hid (HQ.out.below hB HQ.out.lt)
  replace HB := Lib.hid (HB.out.trans (hB.mono HG.out))
  replace HG : Hid (g ≤ w1.heap.size) := Nat.le_trans HG.out hB.size
  clear hB
  have HDQ : Hid (g + 1 + 1 < w1.heap.size) := HQ.out.lt
  have hst := st27_new w1 k1
  have HK := Lib.hid (Blk.Is.new w1 (cB 752 (k1)) 27)
  replace HP := Lib.hid (HP.out.alloc (.cells (cB 752 (k1)) 27))
  replace HU := Lib.hid (HU.out.alloc (.cells (cB 752 (k1)) 27))
  replace HQ := Lib.hid (HQ.out.alloc (.cells (cB 752 (k1)) 27))
  replace HB := Lib.hid (HB.out.alloc HG.out (.cells (cB 752 (k1)) 27))
  replace HG : Hid (g ≤ (w1.alloc (.cells (cB 752 (k1)) 27)).heap.size) := Nat.le_trans HG.out (by simp)
  have lK := ld_is HK.out
  have lQ := ldb_is HQ.out
  go_wp2_with fail
  clear hst lK lQ
  generalize w1.alloc (.cells (cB 752 (k1)) 27) = w2 at *
  have HD0 : Hid (g + 1 + 1 < w1.heap.size) := HDQ.out
  generalize w1.heap.size = gk at *
  refine (HC1.out.block b w2).mono ?_
  rintro e w3 ⟨rfl, hB⟩
  replace HP := Lib.hid (HP.out.below hB HP.out.lt)
  replace HU := Lib.hid (HU.out.below hB HU.out.lt)
  replace HQ := Lib.hid (HQ.out.below hB HQ.out.lt)
  replace HK := Lib.hid (HK.out.below hB HK.out.lt)
  replace HB := Lib.hid (HB.out.trans (hB.mono HG.out))
  replace HG : Hid (g ≤ w3.heap.size) := Nat.le_trans HG.out hB.size
  clear hB
  have HD1 : Hid (gk < w3.heap.size) := HK.out.lt
  have hst := st_new w3 (E1 b)
  have HC := Lib.hid (Blk.Is.new w3 (cB 16 (E1 b)) 23)
  replace HP := Lib.hid (HP.out.alloc (.cells (cB 16 (E1 b)) 23))
  replace HU := Lib.hid (HU.out.alloc (.cells (cB 16 (E1 b)) 23))
  replace HQ := Lib.hid (HQ.out.alloc (.cells (cB 16 (E1 b)) 23))
  replace HK := Lib.hid (HK.out.alloc (.cells (cB 16 (E1 b)) 23))
  replace HB := Lib.hid (HB.out.alloc HG.out (.cells (cB 16 (E1 b)) 23))
  replace HG : Hid (g ≤ (w3.alloc (.cells (cB 16 (E1 b)) 23)).heap.size) := Nat.le_trans HG.out (by simp)
  have lK := ld_is HK.out
  have e4 : (w3.alloc (.cells (cB 16 (E1 b)) 23)).heap.size = w3.heap.size + 1 := by simp
  have hst2 := st27_new (w3.alloc (.cells (cB 16 (E1 b)) 23)) k1
  have HO := Lib.hid (Blk.Is.new (w3.alloc (.cells (cB 16 (E1 b)) 23)) (cB 752 k1) 27)
  rw [e4] at hst2 HO
  replace HP := Lib.hid (HP.out.alloc (.cells (cB 752 k1) 27))
  replace HU := Lib.hid (HU.out.alloc (.cells (cB 752 k1) 27))
  replace HQ := Lib.hid (HQ.out.alloc (.cells (cB 752 k1) 27))
  replace HK := Lib.hid (HK.out.alloc (.cells (cB 752 k1) 27))
  replace HC := Lib.hid (HC.out.alloc (.cells (cB 752 k1) 27))
  replace HB := Lib.hid (HB.out.alloc HG.out (.cells (cB 752 k1) 27))
  replace HG : Hid (g ≤ ((w3.alloc (.cells (cB 16 (E1 b)) 23)).alloc (.cells (cB 752 k1) 27)).heap.size) := Nat.le_trans HG.out (by simp)
  have lU := ldk_is HU.out
  go_wp2_with fail
  clear hst hst2 lK lU e4
  generalize (w3.alloc (.cells (cB 16 (E1 b)) 23)).alloc (.cells (cB 752 k1) 27) = w5 at *
  generalize w3.heap.size = gc at *
  refine (HX2.out w5).mono ?_
  rintro e w6 ⟨rfl, hB⟩
  replace HP := Lib.hid (HP.out.below hB HP.out.lt)
  replace HU := Lib.hid (HU.out.below hB HU.out.lt)
  replace HQ := Lib.hid (HQ.out.below hB HQ.out.lt)
  replace HK := Lib.hid (HK.out.below hB HK.out.lt)
  replace HC := Lib.hid (HC.out.below hB HC.out.lt)
  replace HO := Lib.hid (HO.out.below hB HO.out.lt)
  replace HB := Lib.hid (HB.out.trans (hB.mono HG.out))
  replace HG : Hid (g ≤ w6.heap.size) := Nat.le_trans HG.out hB.size
  clear hB
  have hst := st27_new w6 k2
  have HL := Lib.hid (Blk.Is.new w6 (cB 752 (k2)) 27)
  replace HP := Lib.hid (HP.out.alloc (.cells (cB 752 (k2)) 27))
  replace HU := Lib.hid (HU.out.alloc (.cells (cB 752 (k2)) 27))
  replace HQ := Lib.hid (HQ.out.alloc (.cells (cB 752 (k2)) 27))
  replace HK := Lib.hid (HK.out.alloc (.cells (cB 752 (k2)) 27))
  replace HC := Lib.hid (HC.out.alloc (.cells (cB 752 (k2)) 27))
  replace HO := Lib.hid (HO.out.alloc (.cells (cB 752 (k2)) 27))
  replace HB := Lib.hid (HB.out.alloc HG.out (.cells (cB 752 (k2)) 27))
  replace HG : Hid (g ≤ (w6.alloc (.cells (cB 752 (k2)) 27)).heap.size) := Nat.le_trans HG.out (by simp)
  have lL := ld_is HL.out
  have lC := ldb_is HC.out
  go_wp2_with fail
  clear hst lL lC
  generalize w6.alloc (.cells (cB 752 (k2)) 27) = w7 at *
  generalize w6.heap.size = gl at *
  refine (HC2.out.block (E1 b) w7).mono ?_
  rintro e w8 ⟨rfl, hB⟩
  replace HP := Lib.hid (HP.out.below hB HP.out.lt)
  replace HU := Lib.hid (HU.out.below hB HU.out.lt)
  replace HQ := Lib.hid (HQ.out.below hB HQ.out.lt)
  replace HK := Lib.hid (HK.out.below hB HK.out.lt)
  replace HC := Lib.hid (HC.out.below hB HC.out.lt)
  replace HO := Lib.hid (HO.out.below hB HO.out.lt)
  replace HL := Lib.hid (HL.out.below hB HL.out.lt)
  replace HB := Lib.hid (HB.out.trans (hB.mono HG.out))
  replace HG : Hid (g ≤ w8.heap.size) := Nat.le_trans HG.out hB.size
  clear hB
  have HD2 : Hid (gk < w8.heap.size) := HK.out.lt
  have hst := st_new w8 (E2 (E1 b))
  have HS := Lib.hid (Blk.Is.new w8 (cB 16 (E2 (E1 b))) 23)
  replace HP := Lib.hid (HP.out.alloc (.cells (cB 16 (E2 (E1 b))) 23))
  replace HU := Lib.hid (HU.out.alloc (.cells (cB 16 (E2 (E1 b))) 23))
  replace HQ := Lib.hid (HQ.out.alloc (.cells (cB 16 (E2 (E1 b))) 23))
  replace HK := Lib.hid (HK.out.alloc (.cells (cB 16 (E2 (E1 b))) 23))
  replace HC := Lib.hid (HC.out.alloc (.cells (cB 16 (E2 (E1 b))) 23))
  replace HO := Lib.hid (HO.out.alloc (.cells (cB 16 (E2 (E1 b))) 23))
  replace HL := Lib.hid (HL.out.alloc (.cells (cB 16 (E2 (E1 b))) 23))
  replace HB := Lib.hid (HB.out.alloc HG.out (.cells (cB 16 (E2 (E1 b))) 23))
  replace HG : Hid (g ≤ (w8.alloc (.cells (cB 16 (E2 (E1 b))) 23)).heap.size) := Nat.le_trans HG.out (by simp)
  have lL := ld_is HL.out
  have HD := Lib.hid (And.intro HD0.out (And.intro HD1.out HD2.out))
  have hsr := Blk.store_row (P := Try.prog) (t := 27) (cB 752 k2) HK.out (by rw [cB_size]; kernel_rfl) (by rw [cB_size, cB_size]) (cB_one _ _)
  have hkp : Keeps gk (w8.alloc (.cells (cB 16 (E2 (E1 b))) 23)) ((w8.alloc (.cells (cB 16 (E2 (E1 b))) 23)).setRow gk (cB 752 k2)) := ⟨Blk.below_setRow (Below.refl _ _) (Nat.le_refl _) _, fun k _ hk => setRow_other (w8.alloc (.cells (cB 16 (E2 (E1 b))) 23)) gk k _ hk⟩
  replace HP := Lib.hid (hkp.is HP.out (by have := HD.out; omega))
  replace HU := Lib.hid (hkp.is HU.out (by have := HD.out; omega))
  replace HQ := Lib.hid (hkp.is HQ.out (by have := HD.out; omega))
  replace HC := Lib.hid (hkp.is HC.out (by have := HD.out; omega))
  replace HO := Lib.hid (hkp.is HO.out (by have := HD.out; omega))
  replace HS := Lib.hid (hkp.is HS.out (by have := HD.out; omega))
  replace HB := Lib.hid (HB.out.trans (hkp.below.mono (by have := HD.out; omega)))
  replace HK := Lib.hid (HK.out.setRow (cB 752 k2))
  go_wp2_with fail
  clear hst hsr lL hkp hzk hzr HL
  generalize (w8.alloc (.cells (cB 16 (E2 (E1 b))) 23)).setRow gk (cB 752 k2) = wa at *
  generalize w8.heap.size = gs at *
  replace HG := trivial
  have heqr : ∀ f : Nat → B, eq16 f f = true := fun f => eq16_true (Eq16.rfl' f)
  have heq1 := eq16_true (HC1.out.de b)
  have heq2 := eq16_true (HC2.out.de (E1 b))
  refine start_ (n := 39) (S := fun w' => (Blk.ld 27 (.pointer (some ⟨gc + 1, 0, none⟩))).run Try.prog w' = .ok (.agg (cB 752 (k1))) w' ∧ (Blk.ld 27 (.pointer (some ⟨gk, 0, none⟩))).run Try.prog w' = .ok (.agg (cB 752 (k2))) w' ∧ (Blk.ld 23 (.pointer (some ⟨g + 1 + 1, 0, none⟩))).run Try.prog w' = .ok (.agg (cB 16 (b))) w' ∧ (Blk.ld 23 (.pointer (some ⟨gc, 0, none⟩))).run Try.prog w' = .ok (.agg (cB 16 (E1 b))) w' ∧ (Blk.ld 23 (.pointer (some ⟨gs, 0, none⟩))).run Try.prog w' = .ok (.agg (cB 16 (E2 (E1 b)))) w' ∧ (Blk.ld 22 (.pointer (some ⟨g, 0, none⟩))).run Try.prog w' = .ok (.agg (cB 32 (one))) w' ∧ (Blk.ld 22 (.pointer (some ⟨g + 1, 0, none⟩))).run Try.prog w' = .ok (.agg (cB 32 (two))) w') (ds := []) #[false, false, false, false, false, false, false, false, false, false, false, false, false, false, false, false, false, false, false, false, false, false, false, false, false, false, false, false, false, false, false, false, false, false, false, false, false, false, false] (by kernel_rfl) rfl rfl ⟨(ld_is HO.out.drew), (ld_is HK.out.drew), (ldb_is HQ.out.drew), (ldb_is HC.out.drew), (ldb_is HS.out.drew), (ldk_is HP.out.drew), (ldk_is HU.out.drew)⟩ (fun hHeld => ?_)
  have HOv0 := Lib.hid HO.out.drew
  have HKv0 := Lib.hid HK.out.drew
  have HQv0 := Lib.hid HQ.out.drew
  have HCv0 := Lib.hid HC.out.drew
  have HSv0 := Lib.hid HS.out.drew
  have HPv0 := Lib.hid HP.out.drew
  have HUv0 := Lib.hid HU.out.drew
  have HBv0 := Lib.hid HB.out.drew
  clear HO HK HQ HC HS HP HU HB
  generalize wa.drew = v0 at *
  refine take_ (i := 0) (N := some 24) (v := ?_) (a' := ?_) #[true, false, false, false, false, false, false, false, false, false, false, false, false, false, false, false, false, false, false, false, false, false, false, false, false, false, false, false, false, false, false, false, false, false, false, false, false, false, false] rfl rfl (by kernel_rfl) (fun _ _ _ h => h) (Or.inl ⟨by rfl, ?_⟩) hHeld ?_ ?_
  rotate_left
  · rintro w' ⟨s0, s1, s2, s3, s4, s5, s6⟩
    go_simp
    with_reducible rfl
  rotate_left
  · simp only [Act.put, List.setIfInBounds_toArray, List.set_cons_zero, List.set_cons_succ, i64_w, i32_w]
    rfl
  refine take_ (i := 1) (N := some 25) (v := ?_) (a' := ?_) #[true, true, false, false, false, false, false, false, false, false, false, false, false, false, false, false, false, false, false, false, false, false, false, false, false, false, false, false, false, false, false, false, false, false, false, false, false, false, false] rfl rfl (by kernel_rfl) (fun _ _ _ h => h) (Or.inl ⟨by rfl, ?_⟩) hHeld ?_ ?_
  rotate_left
  · rintro w' ⟨s0, s1, s2, s3, s4, s5, s6⟩
    go_simp
    with_reducible rfl
  rotate_left
  · simp only [Act.put, List.setIfInBounds_toArray, List.set_cons_zero, List.set_cons_succ, i64_w, i32_w]
    rfl
  refine take_ (i := 3) (N := some 27) (v := ?_) (a' := ?_) #[true, true, false, true, false, false, false, false, false, false, false, false, false, false, false, false, false, false, false, false, false, false, false, false, false, false, false, false, false, false, false, false, false, false, false, false, false, false, false] rfl rfl (by kernel_rfl) (fun _ _ _ h => h) (Or.inl ⟨by rfl, ?_⟩) hHeld ?_ ?_
  rotate_left
  · rintro w' ⟨s0, s1, s2, s3, s4, s5, s6⟩
    go_simp
    with_reducible rfl
  rotate_left
  · simp only [Act.put, List.setIfInBounds_toArray, List.set_cons_zero, List.set_cons_succ, i64_w, i32_w]
    rfl
  refine one_ (i := 2) (N := some 26) #[true, true, true, true, false, false, false, false, false, false, false, false, false, false, false, false, false, false, false, false, false, false, false, false, false, false, false, false, false, false, false, false, false, false, false, false, false, false, false] rfl rfl (by kernel_rfl) (by decide) (fun K hK => ?_)
  refine goes_ Try.func10 (by kernel_rfl) rfl #[.agg (cB 752 (k1)), .agg (cB 16 (b))] (by rfl) rfl rfl (by simp only [List.map_toArray, List.map_cons, List.map_nil]; rfl) ?_
  with_reducible refine (HC1.out.block b v0).mono ?_
  rintro e v1 ⟨rfl, hB⟩
  refine ⟨_, rfl, ?_⟩
  have HOv1 := Lib.hid (HOv0.out.below hB HOv0.out.lt)
  have HKv1 := Lib.hid (HKv0.out.below hB HKv0.out.lt)
  have HQv1 := Lib.hid (HQv0.out.below hB HQv0.out.lt)
  have HCv1 := Lib.hid (HCv0.out.below hB HCv0.out.lt)
  have HSv1 := Lib.hid (HSv0.out.below hB HSv0.out.lt)
  have HPv1 := Lib.hid (HPv0.out.below hB HPv0.out.lt)
  have HUv1 := Lib.hid (HUv0.out.below hB HUv0.out.lt)
  have HBv1 := Lib.hid (HBv0.out.trans (hB.mono (by rw [← HGE.out]; exact HBv0.out.size)))
  clear hB HBv0 HOv0 HKv0 HQv0 HCv0 HSv0 HPv0 HUv0
  refine hK.out _ _ ⟨(ld_is HOv1.out), (ld_is HKv1.out), (ldb_is HQv1.out), (ldb_is HCv1.out), (ldb_is HSv1.out), (ldk_is HPv1.out), (ldk_is HUv1.out)⟩ (fun hHeld => ?_)
  clear hK K
  refine norm_ (a' := ?_) ?_ ?_
  rotate_left
  · show Act.put _ (some 26) _ = _
    simp only [Act.put, List.setIfInBounds_toArray, List.set_cons_zero, List.set_cons_succ, i64_w, i32_w]
    rfl
  refine pure_ (i := 4) (N := some 28) (v := ?_) (a' := ?_) #[true, true, true, true, true, false, false, false, false, false, false, false, false, false, false, false, false, false, false, false, false, false, false, false, false, false, false, false, false, false, false, false, false, false, false, false, false, false, false] rfl rfl (by kernel_rfl) (fun _ _ _ h => h) (Or.inl ⟨by rfl, ?_⟩) ?_ ?_
  rotate_left
  · intro w'
    refine (eq_op (by rfl) (by rfl) (by rfl) _).trans ?_
    rw [heqr]
  rotate_left
  · simp only [Act.put, List.setIfInBounds_toArray, List.set_cons_zero, List.set_cons_succ, i64_w, i32_w]
    rfl
  refine pure_ (i := 5) (N := some 29) (v := ?_) (a' := ?_) #[true, true, true, true, true, true, false, false, false, false, false, false, false, false, false, false, false, false, false, false, false, false, false, false, false, false, false, false, false, false, false, false, false, false, false, false, false, false, false] rfl rfl (by kernel_rfl) (fun _ _ _ h => h) (Or.inl ⟨by rfl, ?_⟩) ?_ ?_
  rotate_left
  · intro w'
    go_simp
    with_reducible rfl
  rotate_left
  · simp only [Act.put, List.setIfInBounds_toArray, List.set_cons_zero, List.set_cons_succ, i64_w, i32_w]
    rfl
  refine take_ (i := 6) (N := some 30) (v := ?_) (a' := ?_) #[true, true, true, true, true, true, true, false, false, false, false, false, false, false, false, false, false, false, false, false, false, false, false, false, false, false, false, false, false, false, false, false, false, false, false, false, false, false, false] rfl rfl (by kernel_rfl) (fun _ _ _ h => h) (Or.inl ⟨by rfl, ?_⟩) hHeld ?_ ?_
  rotate_left
  · rintro w' ⟨s0, s1, s2, s3, s4, s5, s6⟩
    go_simp
    with_reducible rfl
  rotate_left
  · simp only [Act.put, List.setIfInBounds_toArray, List.set_cons_zero, List.set_cons_succ, i64_w, i32_w]
    rfl
  refine take_ (i := 7) (N := some 31) (v := ?_) (a' := ?_) #[true, true, true, true, true, true, true, true, false, false, false, false, false, false, false, false, false, false, false, false, false, false, false, false, false, false, false, false, false, false, false, false, false, false, false, false, false, false, false] rfl rfl (by kernel_rfl) (fun _ _ _ h => h) (Or.inl ⟨by rfl, ?_⟩) hHeld ?_ ?_
  rotate_left
  · rintro w' ⟨s0, s1, s2, s3, s4, s5, s6⟩
    go_simp
    with_reducible rfl
  rotate_left
  · simp only [Act.put, List.setIfInBounds_toArray, List.set_cons_zero, List.set_cons_succ, i64_w, i32_w]
    rfl
  refine take_ (i := 9) (N := some 33) (v := ?_) (a' := ?_) #[true, true, true, true, true, true, true, true, false, true, false, false, false, false, false, false, false, false, false, false, false, false, false, false, false, false, false, false, false, false, false, false, false, false, false, false, false, false, false] rfl rfl (by kernel_rfl) (fun _ _ _ h => h) (Or.inl ⟨by rfl, ?_⟩) hHeld ?_ ?_
  rotate_left
  · rintro w' ⟨s0, s1, s2, s3, s4, s5, s6⟩
    go_simp
    with_reducible rfl
  rotate_left
  · simp only [Act.put, List.setIfInBounds_toArray, List.set_cons_zero, List.set_cons_succ, i64_w, i32_w]
    rfl
  refine one_ (i := 8) (N := some 32) #[true, true, true, true, true, true, true, true, true, true, false, false, false, false, false, false, false, false, false, false, false, false, false, false, false, false, false, false, false, false, false, false, false, false, false, false, false, false, false] rfl rfl (by kernel_rfl) (by decide) (fun K hK => ?_)
  refine goes_ Try.func10 (by kernel_rfl) rfl #[.agg (cB 752 (k2)), .agg (cB 16 (E1 b))] (by rfl) rfl rfl (by simp only [List.map_toArray, List.map_cons, List.map_nil]; rfl) ?_
  with_reducible refine (HC2.out.block (E1 b) v1).mono ?_
  rintro e v2 ⟨rfl, hB⟩
  refine ⟨_, rfl, ?_⟩
  have HOv2 := Lib.hid (HOv1.out.below hB HOv1.out.lt)
  have HKv2 := Lib.hid (HKv1.out.below hB HKv1.out.lt)
  have HQv2 := Lib.hid (HQv1.out.below hB HQv1.out.lt)
  have HCv2 := Lib.hid (HCv1.out.below hB HCv1.out.lt)
  have HSv2 := Lib.hid (HSv1.out.below hB HSv1.out.lt)
  have HPv2 := Lib.hid (HPv1.out.below hB HPv1.out.lt)
  have HUv2 := Lib.hid (HUv1.out.below hB HUv1.out.lt)
  have HBv2 := Lib.hid (HBv1.out.trans (hB.mono (by rw [← HGE.out]; exact HBv1.out.size)))
  clear hB HBv1 HOv1 HKv1 HQv1 HCv1 HSv1 HPv1 HUv1
  refine hK.out _ _ ⟨(ld_is HOv2.out), (ld_is HKv2.out), (ldb_is HQv2.out), (ldb_is HCv2.out), (ldb_is HSv2.out), (ldk_is HPv2.out), (ldk_is HUv2.out)⟩ (fun hHeld => ?_)
  clear hK K
  refine norm_ (a' := ?_) ?_ ?_
  rotate_left
  · show Act.put _ (some 32) _ = _
    simp only [Act.put, List.setIfInBounds_toArray, List.set_cons_zero, List.set_cons_succ, i64_w, i32_w]
    rfl
  refine pure_ (i := 10) (N := some 34) (v := ?_) (a' := ?_) #[true, true, true, true, true, true, true, true, true, true, true, false, false, false, false, false, false, false, false, false, false, false, false, false, false, false, false, false, false, false, false, false, false, false, false, false, false, false, false] rfl rfl (by kernel_rfl) (fun _ _ _ h => h) (Or.inl ⟨by rfl, ?_⟩) ?_ ?_
  rotate_left
  · intro w'
    refine (eq_op (by rfl) (by rfl) (by rfl) _).trans ?_
    rw [heqr]
  rotate_left
  · simp only [Act.put, List.setIfInBounds_toArray, List.set_cons_zero, List.set_cons_succ, i64_w, i32_w]
    rfl
  refine pure_ (i := 11) (N := some 35) (v := ?_) (a' := ?_) #[true, true, true, true, true, true, true, true, true, true, true, true, false, false, false, false, false, false, false, false, false, false, false, false, false, false, false, false, false, false, false, false, false, false, false, false, false, false, false] rfl rfl (by kernel_rfl) (fun _ _ _ h => h) (Or.inl ⟨by rfl, ?_⟩) ?_ ?_
  rotate_left
  · intro w'
    go_simp
    with_reducible rfl
  rotate_left
  · simp only [Act.put, List.setIfInBounds_toArray, List.set_cons_zero, List.set_cons_succ, i64_w, i32_w]
    rfl
  refine pure_ (i := 12) (N := some 36) (v := ?_) (a' := ?_) #[true, true, true, true, true, true, true, true, true, true, true, true, true, false, false, false, false, false, false, false, false, false, false, false, false, false, false, false, false, false, false, false, false, false, false, false, false, false, false] rfl rfl (by kernel_rfl) (fun _ _ _ h => h) (Or.inl ⟨by rfl, ?_⟩) ?_ ?_
  rotate_left
  · intro w'
    go_simp
    with_reducible rfl
  rotate_left
  · simp only [Act.put, List.setIfInBounds_toArray, List.set_cons_zero, List.set_cons_succ, i64_w, i32_w]
    rfl
  refine take_ (i := 13) (N := some 37) (v := ?_) (a' := ?_) #[true, true, true, true, true, true, true, true, true, true, true, true, true, true, false, false, false, false, false, false, false, false, false, false, false, false, false, false, false, false, false, false, false, false, false, false, false, false, false] rfl rfl (by kernel_rfl) (fun _ _ _ h => h) (Or.inl ⟨by rfl, ?_⟩) hHeld ?_ ?_
  rotate_left
  · rintro w' ⟨s0, s1, s2, s3, s4, s5, s6⟩
    go_simp
    with_reducible rfl
  rotate_left
  · simp only [Act.put, List.setIfInBounds_toArray, List.set_cons_zero, List.set_cons_succ, i64_w, i32_w]
    rfl
  refine take_ (i := 14) (N := some 38) (v := ?_) (a' := ?_) #[true, true, true, true, true, true, true, true, true, true, true, true, true, true, true, false, false, false, false, false, false, false, false, false, false, false, false, false, false, false, false, false, false, false, false, false, false, false, false] rfl rfl (by kernel_rfl) (fun _ _ _ h => h) (Or.inl ⟨by rfl, ?_⟩) hHeld ?_ ?_
  rotate_left
  · rintro w' ⟨s0, s1, s2, s3, s4, s5, s6⟩
    go_simp
    with_reducible rfl
  rotate_left
  · simp only [Act.put, List.setIfInBounds_toArray, List.set_cons_zero, List.set_cons_succ, i64_w, i32_w]
    rfl
  refine take_ (i := 16) (N := some 40) (v := ?_) (a' := ?_) #[true, true, true, true, true, true, true, true, true, true, true, true, true, true, true, false, true, false, false, false, false, false, false, false, false, false, false, false, false, false, false, false, false, false, false, false, false, false, false] rfl rfl (by kernel_rfl) (fun _ _ _ h => h) (Or.inl ⟨by rfl, ?_⟩) hHeld ?_ ?_
  rotate_left
  · rintro w' ⟨s0, s1, s2, s3, s4, s5, s6⟩
    go_simp
    with_reducible rfl
  rotate_left
  · simp only [Act.put, List.setIfInBounds_toArray, List.set_cons_zero, List.set_cons_succ, i64_w, i32_w]
    rfl
  refine one_ (i := 15) (N := some 39) #[true, true, true, true, true, true, true, true, true, true, true, true, true, true, true, true, true, false, false, false, false, false, false, false, false, false, false, false, false, false, false, false, false, false, false, false, false, false, false] rfl rfl (by kernel_rfl) (by decide) (fun K hK => ?_)
  refine goes_ Try.func12 (by kernel_rfl) rfl #[.agg (cB 752 (k1)), .agg (cB 16 (E1 b))] (by rfl) rfl rfl (by simp only [List.map_toArray, List.map_cons, List.map_nil]; rfl) ?_
  with_reducible refine (HC1.out.back (E1 b) v2).mono ?_
  rintro e v3 ⟨rfl, hB⟩
  refine ⟨_, rfl, ?_⟩
  have HOv3 := Lib.hid (HOv2.out.below hB HOv2.out.lt)
  have HKv3 := Lib.hid (HKv2.out.below hB HKv2.out.lt)
  have HQv3 := Lib.hid (HQv2.out.below hB HQv2.out.lt)
  have HCv3 := Lib.hid (HCv2.out.below hB HCv2.out.lt)
  have HSv3 := Lib.hid (HSv2.out.below hB HSv2.out.lt)
  have HPv3 := Lib.hid (HPv2.out.below hB HPv2.out.lt)
  have HUv3 := Lib.hid (HUv2.out.below hB HUv2.out.lt)
  have HBv3 := Lib.hid (HBv2.out.trans (hB.mono (by rw [← HGE.out]; exact HBv2.out.size)))
  clear hB HBv2 HOv2 HKv2 HQv2 HCv2 HSv2 HPv2 HUv2
  refine hK.out _ _ ⟨(ld_is HOv3.out), (ld_is HKv3.out), (ldb_is HQv3.out), (ldb_is HCv3.out), (ldb_is HSv3.out), (ldk_is HPv3.out), (ldk_is HUv3.out)⟩ (fun hHeld => ?_)
  clear hK K
  refine norm_ (a' := ?_) ?_ ?_
  rotate_left
  · show Act.put _ (some 39) _ = _
    simp only [Act.put, List.setIfInBounds_toArray, List.set_cons_zero, List.set_cons_succ, i64_w, i32_w]
    rfl
  refine pure_ (i := 17) (N := some 41) (v := ?_) (a' := ?_) #[true, true, true, true, true, true, true, true, true, true, true, true, true, true, true, true, true, true, false, false, false, false, false, false, false, false, false, false, false, false, false, false, false, false, false, false, false, false, false] rfl rfl (by kernel_rfl) (fun _ _ _ h => h) (Or.inl ⟨by rfl, ?_⟩) ?_ ?_
  rotate_left
  · intro w'
    refine (eq_op (by rfl) (by rfl) (by rfl) _).trans ?_
    rw [heq1]
  rotate_left
  · simp only [Act.put, List.setIfInBounds_toArray, List.set_cons_zero, List.set_cons_succ, i64_w, i32_w]
    rfl
  refine pure_ (i := 18) (N := some 42) (v := ?_) (a' := ?_) #[true, true, true, true, true, true, true, true, true, true, true, true, true, true, true, true, true, true, true, false, false, false, false, false, false, false, false, false, false, false, false, false, false, false, false, false, false, false, false] rfl rfl (by kernel_rfl) (fun _ _ _ h => h) (Or.inl ⟨by rfl, ?_⟩) ?_ ?_
  rotate_left
  · intro w'
    go_simp
    with_reducible rfl
  rotate_left
  · simp only [Act.put, List.setIfInBounds_toArray, List.set_cons_zero, List.set_cons_succ, i64_w, i32_w]
    rfl
  refine pure_ (i := 19) (N := some 43) (v := ?_) (a' := ?_) #[true, true, true, true, true, true, true, true, true, true, true, true, true, true, true, true, true, true, true, true, false, false, false, false, false, false, false, false, false, false, false, false, false, false, false, false, false, false, false] rfl rfl (by kernel_rfl) (fun _ _ _ h => h) (Or.inl ⟨by rfl, ?_⟩) ?_ ?_
  rotate_left
  · intro w'
    go_simp
    with_reducible rfl
  rotate_left
  · simp only [Act.put, List.setIfInBounds_toArray, List.set_cons_zero, List.set_cons_succ, i64_w, i32_w]
    rfl
  refine take_ (i := 20) (N := some 44) (v := ?_) (a' := ?_) #[true, true, true, true, true, true, true, true, true, true, true, true, true, true, true, true, true, true, true, true, true, false, false, false, false, false, false, false, false, false, false, false, false, false, false, false, false, false, false] rfl rfl (by kernel_rfl) (fun _ _ _ h => h) (Or.inl ⟨by rfl, ?_⟩) hHeld ?_ ?_
  rotate_left
  · rintro w' ⟨s0, s1, s2, s3, s4, s5, s6⟩
    go_simp
    with_reducible rfl
  rotate_left
  · simp only [Act.put, List.setIfInBounds_toArray, List.set_cons_zero, List.set_cons_succ, i64_w, i32_w]
    rfl
  refine take_ (i := 22) (N := some 46) (v := ?_) (a' := ?_) #[true, true, true, true, true, true, true, true, true, true, true, true, true, true, true, true, true, true, true, true, true, false, true, false, false, false, false, false, false, false, false, false, false, false, false, false, false, false, false] rfl rfl (by kernel_rfl) (fun _ _ _ h => h) (Or.inl ⟨by rfl, ?_⟩) hHeld ?_ ?_
  rotate_left
  · rintro w' ⟨s0, s1, s2, s3, s4, s5, s6⟩
    go_simp
    with_reducible rfl
  rotate_left
  · simp only [Act.put, List.setIfInBounds_toArray, List.set_cons_zero, List.set_cons_succ, i64_w, i32_w]
    rfl
  refine take_ (i := 24) (N := some 48) (v := ?_) (a' := ?_) #[true, true, true, true, true, true, true, true, true, true, true, true, true, true, true, true, true, true, true, true, true, false, true, false, true, false, false, false, false, false, false, false, false, false, false, false, false, false, false] rfl rfl (by kernel_rfl) (fun _ _ _ h => h) (Or.inl ⟨by rfl, ?_⟩) hHeld ?_ ?_
  rotate_left
  · rintro w' ⟨s0, s1, s2, s3, s4, s5, s6⟩
    go_simp
    with_reducible rfl
  rotate_left
  · simp only [Act.put, List.setIfInBounds_toArray, List.set_cons_zero, List.set_cons_succ, i64_w, i32_w]
    rfl
  refine one_ (i := 21) (N := some 45) #[true, true, true, true, true, true, true, true, true, true, true, true, true, true, true, true, true, true, true, true, true, true, true, false, true, false, false, false, false, false, false, false, false, false, false, false, false, false, false] rfl rfl (by kernel_rfl) (by decide) (fun K hK => ?_)
  refine goes_ Try.func8 (by kernel_rfl) rfl #[.agg (cB 32 (one))] (by rfl) rfl rfl (by simp only [List.map_toArray, List.map_cons, List.map_nil]; rfl) ?_
  with_reducible refine (HX1.out v3).mono ?_
  rintro e v4 ⟨rfl, hB⟩
  refine ⟨_, rfl, ?_⟩
  have HOv4 := Lib.hid (HOv3.out.below hB HOv3.out.lt)
  have HKv4 := Lib.hid (HKv3.out.below hB HKv3.out.lt)
  have HQv4 := Lib.hid (HQv3.out.below hB HQv3.out.lt)
  have HCv4 := Lib.hid (HCv3.out.below hB HCv3.out.lt)
  have HSv4 := Lib.hid (HSv3.out.below hB HSv3.out.lt)
  have HPv4 := Lib.hid (HPv3.out.below hB HPv3.out.lt)
  have HUv4 := Lib.hid (HUv3.out.below hB HUv3.out.lt)
  have HBv4 := Lib.hid (HBv3.out.trans (hB.mono (by rw [← HGE.out]; exact HBv3.out.size)))
  clear hB HBv3 HOv3 HKv3 HQv3 HCv3 HSv3 HPv3 HUv3
  refine hK.out _ _ ⟨(ld_is HOv4.out), (ld_is HKv4.out), (ldb_is HQv4.out), (ldb_is HCv4.out), (ldb_is HSv4.out), (ldk_is HPv4.out), (ldk_is HUv4.out)⟩ (fun hHeld => ?_)
  clear hK K
  refine norm_ (a' := ?_) ?_ ?_
  rotate_left
  · show Act.put _ (some 45) _ = _
    simp only [Act.put, List.setIfInBounds_toArray, List.set_cons_zero, List.set_cons_succ, i64_w, i32_w]
    rfl
  refine one_ (i := 23) (N := some 47) #[true, true, true, true, true, true, true, true, true, true, true, true, true, true, true, true, true, true, true, true, true, true, true, true, true, false, false, false, false, false, false, false, false, false, false, false, false, false, false] rfl rfl (by kernel_rfl) (by decide) (fun K hK => ?_)
  refine goes_ Try.func10 (by kernel_rfl) rfl #[.agg (cB 752 (k1)), .agg (cB 16 (b))] (by rfl) rfl rfl (by simp only [List.map_toArray, List.map_cons, List.map_nil]; rfl) ?_
  with_reducible refine (HC1.out.block b v4).mono ?_
  rintro e v5 ⟨rfl, hB⟩
  refine ⟨_, rfl, ?_⟩
  have HOv5 := Lib.hid (HOv4.out.below hB HOv4.out.lt)
  have HKv5 := Lib.hid (HKv4.out.below hB HKv4.out.lt)
  have HQv5 := Lib.hid (HQv4.out.below hB HQv4.out.lt)
  have HCv5 := Lib.hid (HCv4.out.below hB HCv4.out.lt)
  have HSv5 := Lib.hid (HSv4.out.below hB HSv4.out.lt)
  have HPv5 := Lib.hid (HPv4.out.below hB HPv4.out.lt)
  have HUv5 := Lib.hid (HUv4.out.below hB HUv4.out.lt)
  have HBv5 := Lib.hid (HBv4.out.trans (hB.mono (by rw [← HGE.out]; exact HBv4.out.size)))
  clear hB HBv4 HOv4 HKv4 HQv4 HCv4 HSv4 HPv4 HUv4
  refine hK.out _ _ ⟨(ld_is HOv5.out), (ld_is HKv5.out), (ldb_is HQv5.out), (ldb_is HCv5.out), (ldb_is HSv5.out), (ldk_is HPv5.out), (ldk_is HUv5.out)⟩ (fun hHeld => ?_)
  clear hK K
  refine norm_ (a' := ?_) ?_ ?_
  rotate_left
  · show Act.put _ (some 47) _ = _
    simp only [Act.put, List.setIfInBounds_toArray, List.set_cons_zero, List.set_cons_succ, i64_w, i32_w]
    rfl
  refine pure_ (i := 25) (N := some 49) (v := ?_) (a' := ?_) #[true, true, true, true, true, true, true, true, true, true, true, true, true, true, true, true, true, true, true, true, true, true, true, true, true, true, false, false, false, false, false, false, false, false, false, false, false, false, false] rfl rfl (by kernel_rfl) (fun _ _ _ h => h) (Or.inl ⟨by rfl, ?_⟩) ?_ ?_
  rotate_left
  · intro w'
    refine (eq_op (by rfl) (by rfl) (by rfl) _).trans ?_
    rw [heqr]
  rotate_left
  · simp only [Act.put, List.setIfInBounds_toArray, List.set_cons_zero, List.set_cons_succ, i64_w, i32_w]
    rfl
  refine pure_ (i := 26) (N := some 50) (v := ?_) (a' := ?_) #[true, true, true, true, true, true, true, true, true, true, true, true, true, true, true, true, true, true, true, true, true, true, true, true, true, true, true, false, false, false, false, false, false, false, false, false, false, false, false] rfl rfl (by kernel_rfl) (fun _ _ _ h => h) (Or.inl ⟨by rfl, ?_⟩) ?_ ?_
  rotate_left
  · intro w'
    go_simp
    with_reducible rfl
  rotate_left
  · simp only [Act.put, List.setIfInBounds_toArray, List.set_cons_zero, List.set_cons_succ, i64_w, i32_w]
    rfl
  refine pure_ (i := 27) (N := some 51) (v := ?_) (a' := ?_) #[true, true, true, true, true, true, true, true, true, true, true, true, true, true, true, true, true, true, true, true, true, true, true, true, true, true, true, true, false, false, false, false, false, false, false, false, false, false, false] rfl rfl (by kernel_rfl) (fun _ _ _ h => h) (Or.inl ⟨by rfl, ?_⟩) ?_ ?_
  rotate_left
  · intro w'
    go_simp
    with_reducible rfl
  rotate_left
  · simp only [Act.put, List.setIfInBounds_toArray, List.set_cons_zero, List.set_cons_succ, i64_w, i32_w]
    rfl
  refine take_ (i := 28) (N := some 52) (v := ?_) (a' := ?_) #[true, true, true, true, true, true, true, true, true, true, true, true, true, true, true, true, true, true, true, true, true, true, true, true, true, true, true, true, true, false, false, false, false, false, false, false, false, false, false] rfl rfl (by kernel_rfl) (fun _ _ _ h => h) (Or.inl ⟨by rfl, ?_⟩) hHeld ?_ ?_
  rotate_left
  · rintro w' ⟨s0, s1, s2, s3, s4, s5, s6⟩
    go_simp
    with_reducible rfl
  rotate_left
  · simp only [Act.put, List.setIfInBounds_toArray, List.set_cons_zero, List.set_cons_succ, i64_w, i32_w]
    rfl
  refine take_ (i := 30) (N := some 54) (v := ?_) (a' := ?_) #[true, true, true, true, true, true, true, true, true, true, true, true, true, true, true, true, true, true, true, true, true, true, true, true, true, true, true, true, true, false, true, false, false, false, false, false, false, false, false] rfl rfl (by kernel_rfl) (fun _ _ _ h => h) (Or.inl ⟨by rfl, ?_⟩) hHeld ?_ ?_
  rotate_left
  · rintro w' ⟨s0, s1, s2, s3, s4, s5, s6⟩
    go_simp
    with_reducible rfl
  rotate_left
  · simp only [Act.put, List.setIfInBounds_toArray, List.set_cons_zero, List.set_cons_succ, i64_w, i32_w]
    rfl
  refine take_ (i := 32) (N := some 56) (v := ?_) (a' := ?_) #[true, true, true, true, true, true, true, true, true, true, true, true, true, true, true, true, true, true, true, true, true, true, true, true, true, true, true, true, true, false, true, false, true, false, false, false, false, false, false] rfl rfl (by kernel_rfl) (fun _ _ _ h => h) (Or.inl ⟨by rfl, ?_⟩) hHeld ?_ ?_
  rotate_left
  · rintro w' ⟨s0, s1, s2, s3, s4, s5, s6⟩
    go_simp
    with_reducible rfl
  rotate_left
  · simp only [Act.put, List.setIfInBounds_toArray, List.set_cons_zero, List.set_cons_succ, i64_w, i32_w]
    rfl
  refine one_ (i := 29) (N := some 53) #[true, true, true, true, true, true, true, true, true, true, true, true, true, true, true, true, true, true, true, true, true, true, true, true, true, true, true, true, true, true, true, false, true, false, false, false, false, false, false] rfl rfl (by kernel_rfl) (by decide) (fun K hK => ?_)
  refine goes_ Try.func8 (by kernel_rfl) rfl #[.agg (cB 32 (two))] (by rfl) rfl rfl (by simp only [List.map_toArray, List.map_cons, List.map_nil]; rfl) ?_
  with_reducible refine (HX2.out v5).mono ?_
  rintro e v6 ⟨rfl, hB⟩
  refine ⟨_, rfl, ?_⟩
  have HOv6 := Lib.hid (HOv5.out.below hB HOv5.out.lt)
  have HKv6 := Lib.hid (HKv5.out.below hB HKv5.out.lt)
  have HQv6 := Lib.hid (HQv5.out.below hB HQv5.out.lt)
  have HCv6 := Lib.hid (HCv5.out.below hB HCv5.out.lt)
  have HSv6 := Lib.hid (HSv5.out.below hB HSv5.out.lt)
  have HPv6 := Lib.hid (HPv5.out.below hB HPv5.out.lt)
  have HUv6 := Lib.hid (HUv5.out.below hB HUv5.out.lt)
  have HBv6 := Lib.hid (HBv5.out.trans (hB.mono (by rw [← HGE.out]; exact HBv5.out.size)))
  clear hB HBv5 HOv5 HKv5 HQv5 HCv5 HSv5 HPv5 HUv5
  refine hK.out _ _ ⟨(ld_is HOv6.out), (ld_is HKv6.out), (ldb_is HQv6.out), (ldb_is HCv6.out), (ldb_is HSv6.out), (ldk_is HPv6.out), (ldk_is HUv6.out)⟩ (fun hHeld => ?_)
  clear hK K
  refine norm_ (a' := ?_) ?_ ?_
  rotate_left
  · show Act.put _ (some 53) _ = _
    simp only [Act.put, List.setIfInBounds_toArray, List.set_cons_zero, List.set_cons_succ, i64_w, i32_w]
    rfl
  refine one_ (i := 31) (N := some 55) #[true, true, true, true, true, true, true, true, true, true, true, true, true, true, true, true, true, true, true, true, true, true, true, true, true, true, true, true, true, true, true, true, true, false, false, false, false, false, false] rfl rfl (by kernel_rfl) (by decide) (fun K hK => ?_)
  refine goes_ Try.func12 (by kernel_rfl) rfl #[.agg (cB 752 (k2)), .agg (cB 16 (E2 (E1 b)))] (by rfl) rfl rfl (by simp only [List.map_toArray, List.map_cons, List.map_nil]; rfl) ?_
  with_reducible refine (HC2.out.back (E2 (E1 b)) v6).mono ?_
  rintro e v7 ⟨rfl, hB⟩
  refine ⟨_, rfl, ?_⟩
  have HOv7 := Lib.hid (HOv6.out.below hB HOv6.out.lt)
  have HKv7 := Lib.hid (HKv6.out.below hB HKv6.out.lt)
  have HQv7 := Lib.hid (HQv6.out.below hB HQv6.out.lt)
  have HCv7 := Lib.hid (HCv6.out.below hB HCv6.out.lt)
  have HSv7 := Lib.hid (HSv6.out.below hB HSv6.out.lt)
  have HPv7 := Lib.hid (HPv6.out.below hB HPv6.out.lt)
  have HUv7 := Lib.hid (HUv6.out.below hB HUv6.out.lt)
  have HBv7 := Lib.hid (HBv6.out.trans (hB.mono (by rw [← HGE.out]; exact HBv6.out.size)))
  clear hB HBv6 HOv6 HKv6 HQv6 HCv6 HSv6 HPv6 HUv6
  refine hK.out _ _ ⟨(ld_is HOv7.out), (ld_is HKv7.out), (ldb_is HQv7.out), (ldb_is HCv7.out), (ldb_is HSv7.out), (ldk_is HPv7.out), (ldk_is HUv7.out)⟩ (fun hHeld => ?_)
  clear hK K
  refine norm_ (a' := ?_) ?_ ?_
  rotate_left
  · show Act.put _ (some 55) _ = _
    simp only [Act.put, List.setIfInBounds_toArray, List.set_cons_zero, List.set_cons_succ, i64_w, i32_w]
    rfl
  refine pure_ (i := 33) (N := some 57) (v := ?_) (a' := ?_) #[true, true, true, true, true, true, true, true, true, true, true, true, true, true, true, true, true, true, true, true, true, true, true, true, true, true, true, true, true, true, true, true, true, true, false, false, false, false, false] rfl rfl (by kernel_rfl) (fun _ _ _ h => h) (Or.inl ⟨by rfl, ?_⟩) ?_ ?_
  rotate_left
  · intro w'
    refine (eq_op (by rfl) (by rfl) (by rfl) _).trans ?_
    rw [heq2]
  rotate_left
  · simp only [Act.put, List.setIfInBounds_toArray, List.set_cons_zero, List.set_cons_succ, i64_w, i32_w]
    rfl
  refine pure_ (i := 34) (N := some 58) (v := ?_) (a' := ?_) #[true, true, true, true, true, true, true, true, true, true, true, true, true, true, true, true, true, true, true, true, true, true, true, true, true, true, true, true, true, true, true, true, true, true, true, false, false, false, false] rfl rfl (by kernel_rfl) (fun _ _ _ h => h) (Or.inl ⟨by rfl, ?_⟩) ?_ ?_
  rotate_left
  · intro w'
    go_simp
    with_reducible rfl
  rotate_left
  · simp only [Act.put, List.setIfInBounds_toArray, List.set_cons_zero, List.set_cons_succ, i64_w, i32_w]
    rfl
  refine pure_ (i := 35) (N := some 59) (v := ?_) (a' := ?_) #[true, true, true, true, true, true, true, true, true, true, true, true, true, true, true, true, true, true, true, true, true, true, true, true, true, true, true, true, true, true, true, true, true, true, true, true, false, false, false] rfl rfl (by kernel_rfl) (fun _ _ _ h => h) (Or.inl ⟨by rfl, ?_⟩) ?_ ?_
  rotate_left
  · intro w'
    go_simp
    with_reducible rfl
  rotate_left
  · simp only [Act.put, List.setIfInBounds_toArray, List.set_cons_zero, List.set_cons_succ, i64_w, i32_w]
    rfl
  refine one_ (i := 36) (N := some 60) #[true, true, true, true, true, true, true, true, true, true, true, true, true, true, true, true, true, true, true, true, true, true, true, true, true, true, true, true, true, true, true, true, true, true, true, true, true, false, false] rfl rfl (by kernel_rfl) (by decide) (fun K hK => ?_)
  refine goes_ Try.func14 (by kernel_rfl) rfl #[] (by rfl) rfl rfl (by simp only [List.map_toArray, List.map_nil]) ?_
  with_reducible refine (works v7).mono ?_
  rintro e v8 ⟨rfl, hB⟩
  refine ⟨_, rfl, ?_⟩
  have HOv8 := Lib.hid (HOv7.out.below hB HOv7.out.lt)
  have HKv8 := Lib.hid (HKv7.out.below hB HKv7.out.lt)
  have HQv8 := Lib.hid (HQv7.out.below hB HQv7.out.lt)
  have HCv8 := Lib.hid (HCv7.out.below hB HCv7.out.lt)
  have HSv8 := Lib.hid (HSv7.out.below hB HSv7.out.lt)
  have HPv8 := Lib.hid (HPv7.out.below hB HPv7.out.lt)
  have HUv8 := Lib.hid (HUv7.out.below hB HUv7.out.lt)
  have HBv8 := Lib.hid (HBv7.out.trans (hB.mono (by rw [← HGE.out]; exact HBv7.out.size)))
  clear hB HBv7 HOv7 HKv7 HQv7 HCv7 HSv7 HPv7 HUv7
  refine hK.out _ _ ⟨(ld_is HOv8.out), (ld_is HKv8.out), (ldb_is HQv8.out), (ldb_is HCv8.out), (ldb_is HSv8.out), (ldk_is HPv8.out), (ldk_is HUv8.out)⟩ (fun hHeld => ?_)
  clear hK K
  refine norm_ (a' := ?_) ?_ ?_
  rotate_left
  · show Act.put _ (some 60) _ = _
    simp only [Act.put, List.setIfInBounds_toArray, List.set_cons_zero, List.set_cons_succ, i64_w, i32_w]
    rfl
  refine pure_ (i := 37) (N := some 61) (v := ?_) (a' := ?_) #[true, true, true, true, true, true, true, true, true, true, true, true, true, true, true, true, true, true, true, true, true, true, true, true, true, true, true, true, true, true, true, true, true, true, true, true, true, true, false] rfl rfl (by kernel_rfl) (fun _ _ _ h => h) (Or.inl ⟨by rfl, ?_⟩) ?_ ?_
  rotate_left
  · intro w'
    go_simp
    with_reducible rfl
  rotate_left
  · simp only [Act.put, List.setIfInBounds_toArray, List.set_cons_zero, List.set_cons_succ, i64_w, i32_w]
    rfl
  refine pure_ (i := 38) (N := some 6) (v := ?_) (a' := ?_) #[true, true, true, true, true, true, true, true, true, true, true, true, true, true, true, true, true, true, true, true, true, true, true, true, true, true, true, true, true, true, true, true, true, true, true, true, true, true, true] rfl rfl (by kernel_rfl) (fun _ _ _ h => h) (Or.inl ⟨by rfl, ?_⟩) ?_ ?_
  rotate_left
  · intro w'
    go_simp
    with_reducible rfl
  rotate_left
  · simp only [Act.put, List.setIfInBounds_toArray, List.set_cons_zero, List.set_cons_succ, i64_w, i32_w]
    rfl
  refine done_ (by kernel_rfl) ?_
  go_wp2_with fail
  go_ret
  exact ⟨rfl, by rw [HGE.out]; exact HBv8.out⟩
end Go.Proofs.Ytfbhbkcjnbpnlaa.HAesTurns
