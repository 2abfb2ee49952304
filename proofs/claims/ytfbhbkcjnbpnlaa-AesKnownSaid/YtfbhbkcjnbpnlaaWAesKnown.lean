/- It is proved here that the law AesKnown, called with any arrays, answers true and leaves what was there alone. No condition. -/
import Derived.Test.YtfbhbkcjnbpnlaaAesC
namespace Go.Proofs.Ytfbhbkcjnbpnlaa.HAesKnown
set_option linter.unusedVariables false
set_option linter.unusedSimpArgs false
open Go.RowKit Go.Proofs.YtfbhbkcjnbpnlaaW.PrintWords Go.Proofs.YtfbhbkcjnbpnlaaW.PrintLast Go.Proofs.YtfbhbkcjnbpnlaaW.PrintMore
open Gf Gfi Poly AesF Aes
attribute [local go_sem ↓] ld22 st22 ld23 st23 ld27 st27 ld31 st31 bd23
theorem lit32 : (#[.int .u8 0, .int .u8 0, .int .u8 0, .int .u8 0, .int .u8 0, .int .u8 0, .int .u8 0, .int .u8 0, .int .u8 0, .int .u8 0, .int .u8 0, .int .u8 0, .int .u8 0, .int .u8 0, .int .u8 0, .int .u8 0, .int .u8 0, .int .u8 0, .int .u8 0, .int .u8 0, .int .u8 0, .int .u8 0, .int .u8 0, .int .u8 0, .int .u8 0, .int .u8 0, .int .u8 0, .int .u8 0, .int .u8 0, .int .u8 0, .int .u8 0, .int .u8 0] : Array Value) = cB 32 z16 := rfl
theorem bd_want (W : World) : (bd 23 #[(0, .int .u8 142), (1, .int .u8 162), (2, .int .u8 183), (3, .int .u8 202), (4, .int .u8 81), (5, .int .u8 103), (6, .int .u8 69), (7, .int .u8 191), (8, .int .u8 234), (9, .int .u8 252), (10, .int .u8 73), (11, .int .u8 144), (12, .int .u8 75), (13, .int .u8 73), (14, .int .u8 96), (15, .int .u8 137)]).run Try.prog W = .ok (.agg (cB 16 kwant)) W := by kernel_rfl
set_option maxRecDepth 100000 in
set_option maxHeartbeats 4000000 in
theorem law (w : World) : Calls Try.prog 7 #[] w fun e w' => e = .returned (.bool true) ∧ Below w.heap.size w w' := by
  obtain ⟨kc, E, D, hC, hw, hx⟩ := open_known
  have HC := Lib.hid hC
  have HX := Lib.hid hx
  have heq1 := eq16_true hw
  have heq2 := eq16_true ((hC.dc hw.symm).trans (hC.de kblk))
  have HE1 := Lib.hid heq1
  have HE2 := Lib.hid heq2
  clear hC hw hx heq1 heq2
  have e1 : (w.alloc (.cells (cB 32 z16) 22)).heap.size = w.heap.size + 1 := by simp
  have HA := Lib.hid ((Blk.Is.new w (cB 32 z16) 22).alloc (.cells (cB 16 z16) 23))
  have HQ := Lib.hid (Blk.Is.new (w.alloc (.cells (cB 32 z16) 22)) (cB 16 z16) 23)
  rw [e1] at HQ
  have HB := Lib.hid (((Below.refl _ w).alloc (Nat.le_refl _) (.cells (cB 32 z16) 22)).alloc (by omega) (.cells (cB 16 z16) 23))
  clear e1
  go_enter Try.func7, Try.ntmps7
  go_wp2_with fail
  rw [lit32, lit16]
  generalize ((w.alloc (.cells (cB 32 z16) 22)).alloc (.cells (cB 16 z16) 23)) = w0 at *
  generalize hg : w.heap.size = g at *
  have HGE := Lib.hid hg
  clear hg
  go_loopw [3, 7, 8, 9, 10, 11, 12, 13, 14] (fun v3 v7 v8 v9 v10 v11 v12 v13 v14 wl => ∃ (i : Nat), i ≤ 32 ∧ v3 = .int .i64 (i : Int) ∧ Hid (Blk.Is wl g (cB 32 (blend z16 0 i kkey)) 22) ∧ Hid (Blk.Is wl (g + 1) (cB 16 (z16)) 23) ∧ Hid (Below g w wl)) (fun v3 _ _ _ _ _ _ _ _ _ => 32 - (intOf v3).toNat)
  case atStart => exact ⟨0, by omega, rfl, by rw [blend_zero]; exact HA, HQ, HB⟩
  case round =>
    clear HA HQ HB
    obtain ⟨i, hi, rfl, HA, HQ, HB⟩ := hrel
    by_cases hlt : i < 32
    · have hxx : IntKind.u8.wrap (i : Int) = ofB (kkey i) := by
        show (i : Int) % 256 = ofB (BitVec.ofNat 8 i)
        unfold ofB
        rw [BitVec.toNat_ofNat]
        omega
      have hc : wr.cell? ⟨g, i, none⟩ = some (.int .u8 (ofB (blend z16 0 i kkey i))) := by rw [HA.out.cell, cB_get 32 _ i hlt]
      have hf := HA.out.free i
      have HAN : Hid (∀ W, Blk.Is W g (cB 32 (blend z16 0 i kkey)) 22 → Blk.Is (W.setCell ⟨g, i, none⟩ (.int .u8 (ofB (kkey i)))) g (cB 32 (blend z16 0 (i + 1) kkey)) 22) := fun W h => by
        have h2 := h.set i (.int .u8 (ofB (kkey i)))
        have e := blend_next z16 kkey 0 i
        rw [Nat.zero_add] at e
        rw [cB_set, e] at h2
        exact h2
      generalize ofB (blend z16 0 i kkey i) = cc at *
      generalize kkey i = kv at *
      go_wp2_with fail
      go_roundw
      case rel => exact ⟨i + 1, by omega, by go_num, HAN.out _ HA.out, HQ.out.other (by simp) _, HB.out.setCell (Nat.le_refl g) _⟩
      case measure => simp [intOf]; omega
    · obtain rfl : i = 32 := by omega
      go_wp2_with fail
      generalize ((32 : Nat) : Int) = c32
      go_loopw [4, 15, 16, 17, 18, 19, 20, 21, 22, 23] (fun v4 v15 v16 v17 v18 v19 v20 v21 v22 v23 wl => ∃ (i : Nat), i ≤ 16 ∧ v4 = .int .i64 (i : Int) ∧ Hid (Blk.Is wl g (cB 32 (blend z16 0 32 kkey)) 22) ∧ Hid (Blk.Is wl (g + 1) (cB 16 (blend z16 0 i kblk)) 23) ∧ Hid (Below g w wl)) (fun v4 _ _ _ _ _ _ _ _ _ _ => 16 - (intOf v4).toNat)
      case atStart => exact ⟨0, by omega, rfl, HA, by rw [blend_zero]; exact HQ, HB⟩
      case round =>
        clear HA HQ HB
        obtain ⟨i, hi, rfl, HA, HQ, HB⟩ := hrel
        by_cases hlt : i < 16
        · have hxx : IntKind.u8.wrap (17 * (i : Int)) = ofB (kblk i) := by
            show (17 * (i : Int)) % 256 = ofB (BitVec.ofNat 8 (17 * i))
            unfold ofB
            rw [BitVec.toNat_ofNat]
            omega
          have hc : wr.cell? ⟨g + 1, i, none⟩ = some (.int .u8 (ofB (blend z16 0 i kblk i))) := by rw [HQ.out.cell, cB_get 16 _ i hlt]
          have hf := HQ.out.free i
          have HQN : Hid (∀ W, Blk.Is W (g + 1) (cB 16 (blend z16 0 i kblk)) 23 → Blk.Is (W.setCell ⟨g + 1, i, none⟩ (.int .u8 (ofB (kblk i)))) (g + 1) (cB 16 (blend z16 0 (i + 1) kblk)) 23) := fun W h => by
            have h2 := h.set i (.int .u8 (ofB (kblk i)))
            have e := blend_next z16 kblk 0 i
            rw [Nat.zero_add] at e
            rw [cB_set, e] at h2
            exact h2
          generalize ofB (blend z16 0 i kblk i) = cc at *
          generalize kblk i = kv at *
          go_wp2_with fail
          go_roundw
          case rel => exact ⟨i + 1, by omega, by go_num, HA.out.other (by simp) _, HQN.out _ HQ.out, HB.out.setCell (by show g ≤ g + 1; omega) _⟩
          case measure => simp [intOf]; omega
        · obtain rfl : i = 16 := by omega
          have eA : cB 32 (blend z16 0 32 kkey) = cB 32 kkey := cB_congr (fun q hq => by unfold blend; rw [if_pos (by omega), Nat.sub_zero])
          have eQ : cB 16 (blend z16 0 16 kblk) = cB 16 kblk := cB_congr (fun q hq => by unfold blend; rw [if_pos (by omega), Nat.sub_zero])
          rw [eA] at HA
          rw [eQ] at HQ
          clear eA eQ
          obtain ⟨wv, hwv⟩ : ∃ wv, wv = kwant := ⟨_, rfl⟩
          have hbw : ∀ W, (bd 23 #[(0, .int .u8 142), (1, .int .u8 162), (2, .int .u8 183), (3, .int .u8 202), (4, .int .u8 81), (5, .int .u8 103), (6, .int .u8 69), (7, .int .u8 191), (8, .int .u8 234), (9, .int .u8 252), (10, .int .u8 73), (11, .int .u8 144), (12, .int .u8 75), (13, .int .u8 73), (14, .int .u8 96), (15, .int .u8 137)]).run Try.prog W = .ok (.agg (cB 16 wv)) W := fun W => by rw [hwv]; exact bd_want W
          rw [← hwv] at HE1 HE2
          clear hwv
          have hzk := zeroKey0
          have HG : Hid (g ≤ wr.heap.size) := by have := HA.out.lt; exact Nat.le_of_lt this
          have hst := st_new wr wv
          have HV := Lib.hid (Blk.Is.new wr (cB 16 (wv)) 23)
          replace HA := Lib.hid (HA.out.alloc (.cells (cB 16 (wv)) 23))
          replace HQ := Lib.hid (HQ.out.alloc (.cells (cB 16 (wv)) 23))
          replace HB := Lib.hid (HB.out.alloc HG.out (.cells (cB 16 (wv)) 23))
          replace HG : Hid (g ≤ (wr.alloc (.cells (cB 16 (wv)) 23)).heap.size) := Nat.le_trans HG.out (by simp)
          have lA := ldk_is HA.out
          go_wp2_with fail
          clear hst hbw lA
          generalize wr.alloc (.cells (cB 16 (wv)) 23) = w1 at *
          generalize wr.heap.size = gv at *
          generalize ((16 : Nat) : Int) = c16 at *
          refine (HX.out w1).mono ?_
          rintro e w2 ⟨rfl, hB⟩
          replace HA := Lib.hid (HA.out.below hB HA.out.lt)
          replace HQ := Lib.hid (HQ.out.below hB HQ.out.lt)
          replace HV := Lib.hid (HV.out.below hB HV.out.lt)
          replace HB := Lib.hid (HB.out.trans (hB.mono HG.out))
          replace HG : Hid (g ≤ w2.heap.size) := Nat.le_trans HG.out hB.size
          clear hB
          have hst := st27_new w2 kc
          have HK := Lib.hid (Blk.Is.new w2 (cB 752 (kc)) 27)
          replace HA := Lib.hid (HA.out.alloc (.cells (cB 752 (kc)) 27))
          replace HQ := Lib.hid (HQ.out.alloc (.cells (cB 752 (kc)) 27))
          replace HV := Lib.hid (HV.out.alloc (.cells (cB 752 (kc)) 27))
          replace HB := Lib.hid (HB.out.alloc HG.out (.cells (cB 752 (kc)) 27))
          replace HG : Hid (g ≤ (w2.alloc (.cells (cB 752 (kc)) 27)).heap.size) := Nat.le_trans HG.out (by simp)
          go_wp2_with fail
          clear hst hzk
          generalize w2.alloc (.cells (cB 752 (kc)) 27) = w3 at *
          generalize w2.heap.size = gk at *
          have heq1 := HE1.out
          have heq2 := HE2.out
          clear HA HE1 HE2
          replace HG := trivial
          refine start_ (n := 16) (S := fun w' => (Blk.ld 27 (.pointer (some ⟨gk, 0, none⟩))).run Try.prog w' = .ok (.agg (cB 752 (kc))) w' ∧ (Blk.ld 23 (.pointer (some ⟨g + 1, 0, none⟩))).run Try.prog w' = .ok (.agg (cB 16 (kblk))) w' ∧ (Blk.ld 23 (.pointer (some ⟨gv, 0, none⟩))).run Try.prog w' = .ok (.agg (cB 16 (wv))) w') (ds := []) #[false, false, false, false, false, false, false, false, false, false, false, false, false, false, false, false] (by kernel_rfl) rfl rfl ⟨(ld_is HK.out.drew), (ldb_is HQ.out.drew), (ldb_is HV.out.drew)⟩ (fun hHeld => ?_)
          have HKv0 := Lib.hid HK.out.drew
          have HQv0 := Lib.hid HQ.out.drew
          have HVv0 := Lib.hid HV.out.drew
          have HBv0 := Lib.hid HB.out.drew
          clear HK HQ HV HB
          generalize w3.drew = v0 at *
          refine take_ (i := 0) (N := some 27) (v := ?_) (a' := ?_) #[true, false, false, false, false, false, false, false, false, false, false, false, false, false, false, false] rfl rfl (by kernel_rfl) (fun _ _ _ h => h) (Or.inl ⟨by rfl, ?_⟩) hHeld ?_ ?_
          rotate_left
          · rintro w' ⟨s0, s1, s2⟩
            go_simp
            with_reducible rfl
          rotate_left
          · simp only [Act.put, List.setIfInBounds_toArray, List.set_cons_zero, List.set_cons_succ, i64_w, i32_w]
            rfl
          refine take_ (i := 1) (N := some 28) (v := ?_) (a' := ?_) #[true, true, false, false, false, false, false, false, false, false, false, false, false, false, false, false] rfl rfl (by kernel_rfl) (fun _ _ _ h => h) (Or.inl ⟨by rfl, ?_⟩) hHeld ?_ ?_
          rotate_left
          · rintro w' ⟨s0, s1, s2⟩
            go_simp
            with_reducible rfl
          rotate_left
          · simp only [Act.put, List.setIfInBounds_toArray, List.set_cons_zero, List.set_cons_succ, i64_w, i32_w]
            rfl
          refine take_ (i := 3) (N := some 30) (v := ?_) (a' := ?_) #[true, true, false, true, false, false, false, false, false, false, false, false, false, false, false, false] rfl rfl (by kernel_rfl) (fun _ _ _ h => h) (Or.inl ⟨by rfl, ?_⟩) hHeld ?_ ?_
          rotate_left
          · rintro w' ⟨s0, s1, s2⟩
            go_simp
            with_reducible rfl
          rotate_left
          · simp only [Act.put, List.setIfInBounds_toArray, List.set_cons_zero, List.set_cons_succ, i64_w, i32_w]
            rfl
          refine one_ (i := 2) (N := some 29) #[true, true, true, true, false, false, false, false, false, false, false, false, false, false, false, false] rfl rfl (by kernel_rfl) (by decide) (fun K hK => ?_)
          refine goes_ Try.func10 (by kernel_rfl) rfl #[.agg (cB 752 (kc)), .agg (cB 16 (kblk))] (by rfl) rfl rfl (by simp only [List.map_toArray, List.map_cons, List.map_nil]; rfl) ?_
          with_reducible refine (HC.out.block kblk v0).mono ?_
          rintro e v1 ⟨rfl, hB⟩
          refine ⟨_, rfl, ?_⟩
          have HKv1 := Lib.hid (HKv0.out.below hB HKv0.out.lt)
          have HQv1 := Lib.hid (HQv0.out.below hB HQv0.out.lt)
          have HVv1 := Lib.hid (HVv0.out.below hB HVv0.out.lt)
          have HBv1 := Lib.hid (HBv0.out.trans (hB.mono (by rw [← HGE.out]; exact HBv0.out.size)))
          clear hB HBv0 HKv0 HQv0 HVv0
          refine hK.out _ _ ⟨(ld_is HKv1.out), (ldb_is HQv1.out), (ldb_is HVv1.out)⟩ (fun hHeld => ?_)
          clear hK K
          refine norm_ (a' := ?_) ?_ ?_
          rotate_left
          · show Act.put _ (some 29) _ = _
            simp only [Act.put, List.setIfInBounds_toArray, List.set_cons_zero, List.set_cons_succ, i64_w, i32_w]
            rfl
          refine pure_ (i := 4) (N := some 31) (v := ?_) (a' := ?_) #[true, true, true, true, true, false, false, false, false, false, false, false, false, false, false, false] rfl rfl (by kernel_rfl) (fun _ _ _ h => h) (Or.inl ⟨by rfl, ?_⟩) ?_ ?_
          rotate_left
          · intro w'
            refine (eq_op (by rfl) (by rfl) (by rfl) _).trans ?_
            rw [heq1]
          rotate_left
          · simp only [Act.put, List.setIfInBounds_toArray, List.set_cons_zero, List.set_cons_succ, i64_w, i32_w]
            rfl
          refine pure_ (i := 5) (N := some 32) (v := ?_) (a' := ?_) #[true, true, true, true, true, true, false, false, false, false, false, false, false, false, false, false] rfl rfl (by kernel_rfl) (fun _ _ _ h => h) (Or.inl ⟨by rfl, ?_⟩) ?_ ?_
          rotate_left
          · intro w'
            go_simp
            with_reducible rfl
          rotate_left
          · simp only [Act.put, List.setIfInBounds_toArray, List.set_cons_zero, List.set_cons_succ, i64_w, i32_w]
            rfl
          refine take_ (i := 6) (N := some 33) (v := ?_) (a' := ?_) #[true, true, true, true, true, true, true, false, false, false, false, false, false, false, false, false] rfl rfl (by kernel_rfl) (fun _ _ _ h => h) (Or.inl ⟨by rfl, ?_⟩) hHeld ?_ ?_
          rotate_left
          · rintro w' ⟨s0, s1, s2⟩
            go_simp
            with_reducible rfl
          rotate_left
          · simp only [Act.put, List.setIfInBounds_toArray, List.set_cons_zero, List.set_cons_succ, i64_w, i32_w]
            rfl
          refine take_ (i := 7) (N := some 34) (v := ?_) (a' := ?_) #[true, true, true, true, true, true, true, true, false, false, false, false, false, false, false, false] rfl rfl (by kernel_rfl) (fun _ _ _ h => h) (Or.inl ⟨by rfl, ?_⟩) hHeld ?_ ?_
          rotate_left
          · rintro w' ⟨s0, s1, s2⟩
            go_simp
            with_reducible rfl
          rotate_left
          · simp only [Act.put, List.setIfInBounds_toArray, List.set_cons_zero, List.set_cons_succ, i64_w, i32_w]
            rfl
          refine take_ (i := 9) (N := some 36) (v := ?_) (a' := ?_) #[true, true, true, true, true, true, true, true, false, true, false, false, false, false, false, false] rfl rfl (by kernel_rfl) (fun _ _ _ h => h) (Or.inl ⟨by rfl, ?_⟩) hHeld ?_ ?_
          rotate_left
          · rintro w' ⟨s0, s1, s2⟩
            go_simp
            with_reducible rfl
          rotate_left
          · simp only [Act.put, List.setIfInBounds_toArray, List.set_cons_zero, List.set_cons_succ, i64_w, i32_w]
            rfl
          refine one_ (i := 8) (N := some 35) #[true, true, true, true, true, true, true, true, true, true, false, false, false, false, false, false] rfl rfl (by kernel_rfl) (by decide) (fun K hK => ?_)
          refine goes_ Try.func12 (by kernel_rfl) rfl #[.agg (cB 752 (kc)), .agg (cB 16 (wv))] (by rfl) rfl rfl (by simp only [List.map_toArray, List.map_cons, List.map_nil]; rfl) ?_
          with_reducible refine (HC.out.back wv v1).mono ?_
          rintro e v2 ⟨rfl, hB⟩
          refine ⟨_, rfl, ?_⟩
          have HKv2 := Lib.hid (HKv1.out.below hB HKv1.out.lt)
          have HQv2 := Lib.hid (HQv1.out.below hB HQv1.out.lt)
          have HVv2 := Lib.hid (HVv1.out.below hB HVv1.out.lt)
          have HBv2 := Lib.hid (HBv1.out.trans (hB.mono (by rw [← HGE.out]; exact HBv1.out.size)))
          clear hB HBv1 HKv1 HQv1 HVv1
          refine hK.out _ _ ⟨(ld_is HKv2.out), (ldb_is HQv2.out), (ldb_is HVv2.out)⟩ (fun hHeld => ?_)
          clear hK K
          refine norm_ (a' := ?_) ?_ ?_
          rotate_left
          · show Act.put _ (some 35) _ = _
            simp only [Act.put, List.setIfInBounds_toArray, List.set_cons_zero, List.set_cons_succ, i64_w, i32_w]
            rfl
          refine pure_ (i := 10) (N := some 37) (v := ?_) (a' := ?_) #[true, true, true, true, true, true, true, true, true, true, true, false, false, false, false, false] rfl rfl (by kernel_rfl) (fun _ _ _ h => h) (Or.inl ⟨by rfl, ?_⟩) ?_ ?_
          rotate_left
          · intro w'
            refine (eq_op (by rfl) (by rfl) (by rfl) _).trans ?_
            rw [heq2]
          rotate_left
          · simp only [Act.put, List.setIfInBounds_toArray, List.set_cons_zero, List.set_cons_succ, i64_w, i32_w]
            rfl
          refine pure_ (i := 11) (N := some 38) (v := ?_) (a' := ?_) #[true, true, true, true, true, true, true, true, true, true, true, true, false, false, false, false] rfl rfl (by kernel_rfl) (fun _ _ _ h => h) (Or.inl ⟨by rfl, ?_⟩) ?_ ?_
          rotate_left
          · intro w'
            go_simp
            with_reducible rfl
          rotate_left
          · simp only [Act.put, List.setIfInBounds_toArray, List.set_cons_zero, List.set_cons_succ, i64_w, i32_w]
            rfl
          refine pure_ (i := 12) (N := some 39) (v := ?_) (a' := ?_) #[true, true, true, true, true, true, true, true, true, true, true, true, true, false, false, false] rfl rfl (by kernel_rfl) (fun _ _ _ h => h) (Or.inl ⟨by rfl, ?_⟩) ?_ ?_
          rotate_left
          · intro w'
            go_simp
            with_reducible rfl
          rotate_left
          · simp only [Act.put, List.setIfInBounds_toArray, List.set_cons_zero, List.set_cons_succ, i64_w, i32_w]
            rfl
          refine one_ (i := 13) (N := some 40) #[true, true, true, true, true, true, true, true, true, true, true, true, true, true, false, false] rfl rfl (by kernel_rfl) (by decide) (fun K hK => ?_)
          refine goes_ Try.func14 (by kernel_rfl) rfl #[] (by rfl) rfl rfl (by simp only [List.map_toArray, List.map_nil]) ?_
          with_reducible refine (works v2).mono ?_
          rintro e v3 ⟨rfl, hB⟩
          refine ⟨_, rfl, ?_⟩
          have HKv3 := Lib.hid (HKv2.out.below hB HKv2.out.lt)
          have HQv3 := Lib.hid (HQv2.out.below hB HQv2.out.lt)
          have HVv3 := Lib.hid (HVv2.out.below hB HVv2.out.lt)
          have HBv3 := Lib.hid (HBv2.out.trans (hB.mono (by rw [← HGE.out]; exact HBv2.out.size)))
          clear hB HBv2 HKv2 HQv2 HVv2
          refine hK.out _ _ ⟨(ld_is HKv3.out), (ldb_is HQv3.out), (ldb_is HVv3.out)⟩ (fun hHeld => ?_)
          clear hK K
          refine norm_ (a' := ?_) ?_ ?_
          rotate_left
          · show Act.put _ (some 40) _ = _
            simp only [Act.put, List.setIfInBounds_toArray, List.set_cons_zero, List.set_cons_succ, i64_w, i32_w]
            rfl
          refine pure_ (i := 14) (N := some 41) (v := ?_) (a' := ?_) #[true, true, true, true, true, true, true, true, true, true, true, true, true, true, true, false] rfl rfl (by kernel_rfl) (fun _ _ _ h => h) (Or.inl ⟨by rfl, ?_⟩) ?_ ?_
          rotate_left
          · intro w'
            go_simp
            with_reducible rfl
          rotate_left
          · simp only [Act.put, List.setIfInBounds_toArray, List.set_cons_zero, List.set_cons_succ, i64_w, i32_w]
            rfl
          refine pure_ (i := 15) (N := some 0) (v := ?_) (a' := ?_) #[true, true, true, true, true, true, true, true, true, true, true, true, true, true, true, true] rfl rfl (by kernel_rfl) (fun _ _ _ h => h) (Or.inl ⟨by rfl, ?_⟩) ?_ ?_
          rotate_left
          · intro w'
            go_simp
            with_reducible rfl
          rotate_left
          · simp only [Act.put, List.setIfInBounds_toArray, List.set_cons_zero, List.set_cons_succ, i64_w, i32_w]
            rfl
          refine done_ (by kernel_rfl) ?_
          go_wp2_with fail
          go_ret
          exact ⟨rfl, by rw [HGE.out]; exact HBv3.out⟩
end Go.Proofs.Ytfbhbkcjnbpnlaa.HAesKnown
